/- The walk of the law on a tree's root, for the answer true. No conditions but those typed. -/
import Derived.Test.YtjfhbmbiegccnaaQFnExactTreeRootx0
import Derived.Test.YtjfhbmbiegccnaaQFnExactTreeRootx1
import Derived.Test.YtjfhbmbiegccnaaQFnExactTreeRootx2
import Derived.Test.YtjfhbmbiegccnaaQFnExactTreeRootx3
import Derived.Test.YtjfhbmbiegccnaaQFnExactTreeRootx4
namespace Go.Proofs.Ytjfhbmbiegccnaa.QFnExactTreeRoot
open Go.RowKit Go.Proofs.YtjfhbmbiegccnaaW.PrintWords Go.Proofs.YtjfhbmbiegccnaaW.PrintLast Go.Proofs.YtjfhbmbiegccnaaW.PrintMore
attribute [local go_sem] max2_int min2_int max_two min_two max_three min_three max_four min_four   -- for this text's walks alone
set_option linter.unusedVariables false
set_option linter.unusedSimpArgs false


/-! ### laws_markByteSS: function 61 -/
def laws_markByteSS.f (k : Nat) : List (List Int) → Int → Option (Int × List (List Int))
  | [], a => some (a, [])
  | x :: xs, a => (laws_markByteS.f k x a).bind fun p => (laws_markByteSS.f k xs p.1).bind fun q => some (q.1, p.2 :: q.2)
theorem laws_markByteSS.mono : ∀ a0 a1 k, LeO (laws_markByteSS.f k a0 a1) (laws_markByteSS.f (k + 1) a0 a1)
  | [], _, _ => LeO.refl _
  | x :: xs, a, k => by
    unfold laws_markByteSS.f
    exact LeO.bind (laws_markByteS.mono _ _ _) (fun _ => LeO.bind (laws_markByteSS.mono xs _ k) (fun _ => LeO.refl _))
set_option maxHeartbeats 8000000 in
set_option maxRecDepth 100000 in
theorem laws_markByteSS.calls (k : Nat) (P0_ : Nat → Prop) (u9000_ : Value) (l0 : List (List Int)) (a1 : Int) (r1 : Int) (r2 : List (List Int)) (w0 w : World) (hB : Below w0.heap.size w0 w) (ho0 : Kd.S (Kd.slice 5 (Kd.int .u8)) 23 w w0.heap.size P0_ u9000_ l0) (h : laws_markByteSS.f k l0 a1 = some (r1, r2)) :
    Calls Try.prog 61 #[u9000_, .int .i64 a1] w fun e w' => e = .returned (.int .i64 r1) ∧ Kd.S (Kd.slice 5 (Kd.int .u8)) 23 w' w0.heap.size P0_ u9000_ r2 ∧ Below w0.heap.size w0 w' ∧ Kept w w' P0_ := by
  rcases ShaBase.rows_open ho0 with ⟨rfl, rfl⟩ | ⟨g, c, cells, f, inner, rfl, hg, hPg, hh, hle, hmax, hsz, htake, hrows⟩
  · have HB := Aside0.mk hB
    have HO := Aside0.mk ho0
    obtain ⟨rfl, rfl⟩ := Prod.mk.inj (Option.some.inj h)
    clear hB ho0 h
    go_enter Try.func61, Try.ntmps61
    go_wp2
    go_loopg [1, 5] 0 (fun kq v1 v5 w' => v1 = .int .i64 a1 ∧ v5 = .int .i64 0 ∧ w' = w)
    case atStart => exact ⟨rfl, rfl, rfl⟩
    case round =>
      obtain ⟨rfl, rfl, rfl⟩ := hrel
      go_wp2
      go_ret
      exact ⟨rfl, HO.out, HB.out, Kept.refl _ _⟩
  · obtain ⟨n, hn⟩ : ∃ n, n = l0.length := ⟨_, rfl⟩
    have HH := Aside0.mk hh
    have HB0 := Aside0.mk hB
    have HROW := Aside0.mk hrows
    have HF := Aside0.mk h
    have HT := Aside0.mk htake
    have HN := Aside0.mk hn
    have H1 := Aside0.mk hg
    have H2 := Aside0.mk hPg
    have H3 := Aside0.mk hle
    have H4 := Aside0.mk hmax
    have H5 := Aside0.mk hsz
    rw [← hn]
    clear hh hB hrows h htake hn hg hPg hle hmax hsz ho0
    go_enter Try.func61, Try.ntmps61
    go_wp2
    go_loopg [1, 5] n (fun kq v1 v5 w' => ∃ (a : Int) (i : Nat) (pre rest rr : List (List Int)), v1 = .int .i64 a ∧ v5 = .int .i64 (i : Int) ∧ Aside0 (i = pre.length ∧ rest.length = kq ∧ i + kq = n) ∧ Aside0 (laws_markByteSS.f k rest a = some (r1, rr)) ∧ Aside0 (pre ++ rr = r2) ∧ Aside0 (w'.heap[g]? = some (.cells cells 23 (0, 0))) ∧ Aside0 (ShaBase.RowsAt w' w0.heap.size P0_ g f inner (pre ++ rest)) ∧ Aside0 (Below w0.heap.size w0 w') ∧ Aside0 (Kept w w' P0_))
    case atStart => exact ⟨a1, 0, [], l0, r2, rfl, rfl, ⟨⟨rfl, HN.out.symm, by omega⟩⟩, HF, ⟨rfl⟩, HH, HROW, HB0, ⟨Kept.refl _ _⟩⟩
    case round =>
      clear HF HH HROW HB0
      obtain ⟨a, i, pre, rest, rr, rfl, rfl, HI, HF, HR, HH, HROW, HB, HK⟩ := hrel
      cases rest with
      | nil =>
        have hI := HI.out
        obtain rfl : i = n := by simp at hI; omega
        have hd : decide ((i : Int) < (i : Int)) = false := decide_eq_false (by omega)
        obtain ⟨ha, hr⟩ := Prod.mk.inj (Option.some.inj HF.out)
        subst ha
        subst hr
        clear hI
        go_wp2
        go_ret
        have hR := HR.out
        have hrow := HROW.out
        rw [hR] at hrow
        have hl : i = r2.length := by rw [← hR]; have := HI.out.1; simpa using this
        refine ⟨rfl, ?_, HB.out, HK.out⟩
        rw [hl]
        exact ShaBase.rows_close H1.out H2.out HH.out (by rw [← hl, HN.out]; exact H3.out) H4.out H5.out (by rw [← hl, HN.out]; exact HT.out) hrow
      | cons x rest =>
        have hI := HI.out
        have hlt : i < n := by simp at hI; omega
        obtain ⟨p, hp, hq⟩ := Option.bind_eq_some_iff.1 (show (laws_markByteS.f k x a).bind (fun p => (laws_markByteSS.f k rest p.1).bind fun q => some (q.1, p.2 :: q.2)) = some (r1, rr) from HF.out)
        obtain ⟨q, hq1, hq2⟩ := Option.bind_eq_some_iff.1 hq
        obtain ⟨p1, p2⟩ := p
        obtain ⟨q1, q2⟩ := q
        obtain ⟨e1, e2⟩ := Prod.mk.inj (Option.some.inj hq2)
        subst e1
        subst e2
        obtain ⟨v, hv, hRv⟩ := HROW.out.row pre.length x (by simp)
        obtain ⟨Av, cv, ev⟩ := Kd.R_slice hRv
        subst ev
        have hcell : wr.cell? ⟨g, i, none⟩ = some (.slice Av x.length cv) := by
          rw [cell_of_row _ _ _ _ _ _ HH.out]
          have hT := HT.out
          have : (cells.toList.take l0.length)[i]? = some (.slice Av x.length cv) := by rw [hT, hI.1]; exact hv
          rw [List.getElem?_take, if_pos (by rw [← HN.out]; exact hlt)] at this
          simpa using this
        have HV := Aside0.mk hv
        have HRV := Aside0.mk hRv
        have HP := Aside0.mk hp
        have HQ := Aside0.mk hq1
        have HM := Aside0.mk (show rest.length + 1 = gk ∧ i + gk = n ∧ i = pre.length by simp at hI; omega)
        have p0 : ((i : Int) < (n : Int)) = True := eq_true (by omega)
        have p1_ : (i < n) = True := eq_true hlt
        have hd : decide ((i : Int) < (n : Int)) = true := decide_eq_true (by omega)
        clear hI hlt hp hq hq1 hq2 hv hRv HF HI
        go_wp2_with (go_at_call 25; (with_reducible refine (laws_markByteS.calls k (fun k_ => some k_ = (Value.slice Av x.length cv).ownBlock) (.slice Av x.length cv) x a p1 p2 w0 _ HB.out (Kd.R_tight rfl HRV.out) HP.out).mono ?_); rintro e w' ⟨rfl, hR', hb', hk'⟩)
        go_roundg (gk - 1)
        case measure => have := HM.out; omega
        case rel =>
          have hM := HM.out
          refine ⟨p1, i + 1, pre ++ [p2], rest, q2, rfl, (by first | go_num | (have := of_eq_true p1_; have h3 := H3.out; have h4 := H4.out; have h5 := HN.out; unfold maxLen at h4; congr 1; unfold wrap64; omega)), ⟨?_⟩, HQ, ⟨?_⟩, ⟨?_⟩, ⟨ShaBase.rows_set HROW.out HV.out HRV.out _ hR' hk'⟩, ⟨hb'⟩, ⟨HK.out.then_ hk' (fun k_ hk_ => .inl (HRV.out.1 k_ hk_.symm).1.1)⟩⟩
          · simp
            omega
          · rw [← HR.out]
            simp
          · rw [hk'.2 g (blk_lt HH.out) (fun e => (HRV.out.1 g e.symm).1.2 rfl)]
            exact HH.out



theorem of_d {w w' : World} (h : Drawn0 w w') : Below w.heap.size w w' := by
  obtain ⟨nd, rfl⟩ := h
  exact pw_below_drewN (Below.refl _ _) nd
def Zone (a b : Nat) (k : Nat) : Prop := a ≤ k ∧ k < b
theorem R_zone {w : World} {base : Nat} {P : Nat → Prop} {v : Value} {xs : List Int} (h : (Kd.int .u8).R 5 w base P v xs) : (Kd.int .u8).R 5 w base (Zone base w.heap.size) v xs :=
  Kd.R_reok rfl h (fun k hk => ⟨Kd.R_base h k hk, Kd.R_lt h k hk⟩)
theorem S_zone {w : World} {base : Nat} {P : Nat → Prop} {v : Value} {xs : List (List Int)} (h : Kd.S (Kd.slice 5 (Kd.int .u8)) 23 w base P v xs) : Kd.S (Kd.slice 5 (Kd.int .u8)) 23 w base (Zone base w.heap.size) v xs := by
  rcases ShaBase.rows_open h with ⟨rfl, rfl⟩ | ⟨g, c, cells, f, inner, rfl, hg, hPg, hh, hle, hmax, hsz, htake, hrows⟩
  · obtain ⟨f, h0, inner, ho, hr⟩ := h
    refine ⟨f, fun k hk => by simp [Value.ownBlock] at hk, inner, ho, ?_⟩
    refine ⟨hr.1, fun j p hj => ?_⟩
    simp at hj
  · exact ShaBase.rows_close hg ⟨hg, blk_lt hh⟩ hh hle hmax hsz htake ⟨hrows.len, fun j x hj => by
      obtain ⟨v, hv, hR⟩ := hrows.row j x hj
      exact ⟨v, hv, Kd.R_reok rfl hR (fun k hk => ⟨⟨⟨Kd.R_base hR k hk, Kd.R_lt hR k hk⟩, (hR.1 k hk).1.2⟩, (hR.1 k hk).2⟩)⟩⟩
theorem R_readsB {A : Option Addr} {n c : Nat} {w : World} {base : Nat} {ok : Nat → Prop} {xs : List Int} (h : (Kd.int .u8).R 5 w base ok (.slice A n c) xs) : Kd.C (Kd.int .u8) w A xs.length xs ∧ xs.length ≤ c := by
  have q := Kd.R_reads' h
  exact ⟨q.2.2, by rw [← q.1]; exact q.2.1⟩
theorem held' (k : Nat) (A0 : Option Addr) (c0 n : Nat) (l0 : List Int) (hn : l0.length = n) (a1 : Int) (r : Int) (w : World) (hr0 : Kd.C (Kd.int .u8) w A0 l0.length l0) (hc0 : l0.length ≤ c0) (h : laws_heldByteS.f k l0 a1 = some r) :
    Calls Try.prog 29 #[.slice A0 n c0, .int .i64 a1] w fun e w' => e = .returned (.int .i64 r) ∧ Drawn0 w w' := by
  subst hn
  exact laws_heldByteS.calls k A0 c0 l0 a1 r w hr0 hc0 h
set_option maxHeartbeats 8000000 in
set_option maxRecDepth 100000 in
theorem tr_walk (k : Nat) (A0 : Option Addr) (c0 : Nat) (l0 : List (List Int)) (s : Int) (t : List Int) (m : Int) (l1 : List (List Int)) (q : Int) (t1 : List Int) (w : World) (hr0 : Kd.C (Kd.slice 5 (Kd.int .u8)) w A0 l0.length l0) (hc0 : l0.length ≤ c0)
    (e1 : laws_szByteSS.f k l0 1048576 = some s) (hs : ¬ s < 0) (e2 : laws_toByteSS.f k l0 = some l0) (e3 : spec_TreeRoot.f k l0 = some t) (e4 : impl_TreeRoot.f k l0 = some t) (e5 : laws_eqByteS.f k t t = some true) (e6 : laws_eqByteSS.f k l0 l0 = some true)
    (e7 : laws_markByteSS.f k l0 1 = some (m, l1)) (hm : ¬ m < 0) (e8 : laws_markByteS.f k t 1 = some (q, t1)) (hq : ¬ q < 0) (e9 : laws_heldByteS.f k t1 1 = some q) (ht : t1.length = t.length) :
    Calls Try.prog 14 #[.slice A0 l0.length c0] w fun e w' => e = .returned (.bool true) ∧ Below w.heap.size w w' := by
  have HR0 := Aside0.mk hr0
  have HC0 := Aside0.mk hc0
  have E1 := Aside0.mk e1
  have E2 := Aside0.mk e2
  have E3 := Aside0.mk e3
  have E4 := Aside0.mk e4
  have E5 := Aside0.mk e5
  have E6 := Aside0.mk e6
  have E7 := Aside0.mk e7
  have E8 := Aside0.mk e8
  have E9 := Aside0.mk e9
  have HT := Aside0.mk ht
  have b1 : decide (s < 0) = false := decide_eq_false hs
  have b2 : decide (m < 0) = false := decide_eq_false hm
  have b3 : decide (q < 0) = false := decide_eq_false hq
  have b4 : (q != q) = false := bne_self_eq_false q
  have b5 : (q == q) = true := beq_self_eq_true q
  clear hr0 hc0 e1 e2 e3 e4 e5 e6 e7 e8 e9 ht hs hm hq
  have HB := Aside0.mk (Below.refl w.heap.size w)
  go_enter Try.func14, Try.ntmps14
  go_wp2_with (go_at_call 57; refine (laws_szByteSS.calls k _ _ l0 1048576 s _ HR0.out HC0.out E1.out).mono ?_; rintro e w1 ⟨rfl, hd⟩; have hb := of_d hd; clear hd; have nB := Aside0.mk (below_step HB.out hb); clear HB; have HB := nB; clear nB; clear hb)
  go_wp2_with (go_at_call 59; refine (laws_toByteSS.calls k _ _ l0 l0 _ (Kd.C_below HR0.out HB.out) HC0.out E2.out).mono ?_; rintro e w2 ⟨v_, rfl, hS, hb⟩; obtain ⟨AS1, cS1, ev⟩ := Kd.S_slice hS; subst ev; have S1 := Aside0.mk (S_zone hS); clear hS; have zS1 := Aside0.mk (below_size hb); have nB := Aside0.mk (below_step HB.out hb); clear HB; have HB := nB; clear nB; clear hb)
  go_wp2_with (go_at_call 58; refine (spec_TreeRoot.calls k _ _ l0 t _ (Kd.S_reads' S1.out).2.2 (Kd.S_reads' S1.out).2.1 E3.out).mono ?_; rintro e w3 ⟨v_, rfl, hR, hb⟩; clear S1; obtain ⟨AR2, cR2, ev⟩ := Kd.R_slice hR; subst ev; have R2 := Aside0.mk (R_zone hR); clear hR; have zw3 := Aside0.mk (below_size (below_step HB.out hb)); have nB := Aside0.mk (below_step HB.out hb); clear HB; have HB := nB; clear nB; clear hb)
  go_wp2_with (go_at_call 59; refine (laws_toByteSS.calls k _ _ l0 l0 _ (Kd.C_below HR0.out HB.out) HC0.out E2.out).mono ?_; rintro e w4 ⟨v_, rfl, hS, hb⟩; obtain ⟨AS3, cS3, ev⟩ := Kd.S_slice hS; subst ev; have S3 := Aside0.mk (S_zone hS); clear hS; have zS3 := Aside0.mk (below_size hb); have zw4 := Aside0.mk (below_size (below_step HB.out hb)); have n_R2 := Aside0.mk (Kd.R_below R2.out hb); clear R2; have R2 := n_R2; clear n_R2; have nB := Aside0.mk (below_step HB.out hb); clear HB; have HB := nB; clear nB; clear hb)
  go_wp2_with (go_at_call 46; refine (impl_TreeRoot.calls k _ _ l0 t _ (Kd.S_reads' S3.out).2.2 (Kd.S_reads' S3.out).2.1 E4.out).mono ?_; rintro e w5 ⟨v_, rfl, hR, hb⟩; obtain ⟨AR4, cR4, ev⟩ := Kd.R_slice hR; subst ev; have R4 := Aside0.mk (R_zone hR); clear hR; have n_R2 := Aside0.mk (Kd.R_below R2.out hb); clear R2; have R2 := n_R2; clear n_R2; have n_S3 := Aside0.mk (Kd.S_below S3.out hb); clear S3; have S3 := n_S3; clear n_S3; have nB := Aside0.mk (below_step HB.out hb); clear HB; have HB := nB; clear nB; clear hb)
  go_wp2_with (go_at_call 23; refine (laws_eqByteS.calls k _ _ t _ _ t true _ (Kd.R_reads' R4.out).2.2 (Kd.R_reads' R4.out).2.1 (Kd.R_reads' R2.out).2.2 (Kd.R_reads' R2.out).2.1 E5.out).mono ?_; rintro e w6 ⟨rfl, hd⟩; have hb := of_d hd; clear hd; have n_R2 := Aside0.mk (Kd.R_below R2.out hb); clear R2; have R2 := n_R2; clear n_R2; have n_S3 := Aside0.mk (Kd.S_below S3.out hb); clear S3; have S3 := n_S3; clear n_S3; have n_R4 := Aside0.mk (Kd.R_below R4.out hb); clear R4; have R4 := n_R4; clear n_R4; have nB := Aside0.mk (below_step HB.out hb); clear HB; have HB := nB; clear nB; clear hb)
  go_wp2_with (go_at_call 59; refine (laws_toByteSS.calls k _ _ l0 l0 _ (Kd.C_below HR0.out HB.out) HC0.out E2.out).mono ?_; rintro e w7 ⟨v_, rfl, hS, hb⟩; obtain ⟨AS5, cS5, ev⟩ := Kd.S_slice hS; subst ev; have S5 := Aside0.mk (S_zone hS); clear hS; have zS5 := Aside0.mk (below_size hb); have n_R2 := Aside0.mk (Kd.R_below R2.out hb); clear R2; have R2 := n_R2; clear n_R2; have n_S3 := Aside0.mk (Kd.S_below S3.out hb); clear S3; have S3 := n_S3; clear n_S3; have n_R4 := Aside0.mk (Kd.R_below R4.out hb); clear R4; have R4 := n_R4; clear n_R4; have nB := Aside0.mk (below_step HB.out hb); clear HB; have HB := nB; clear nB; clear hb)
  go_wp2_with (go_at_call 60; refine (laws_eqByteSS.calls k _ _ l0 _ _ l0 true _ (Kd.S_reads' S3.out).2.2 (Kd.S_reads' S3.out).2.1 (Kd.S_reads' S5.out).2.2 (Kd.S_reads' S5.out).2.1 E6.out).mono ?_; rintro e w8 ⟨rfl, hd⟩; clear S5 zS5; have hb := of_d hd; clear hd; have n_R2 := Aside0.mk (Kd.R_below R2.out hb); clear R2; have R2 := n_R2; clear n_R2; have n_S3 := Aside0.mk (Kd.S_below S3.out hb); clear S3; have S3 := n_S3; clear n_S3; have n_R4 := Aside0.mk (Kd.R_below R4.out hb); clear R4; have R4 := n_R4; clear n_R4; have nB := Aside0.mk (below_step HB.out hb); clear HB; have HB := nB; clear nB; clear hb)
  go_wp2_with (go_at_call 61; refine (laws_markByteSS.calls k (Zone w3.heap.size w4.heap.size) _ l0 1 m l1 w _ HB.out (Kd.S_lower S3.out zw3.out) E7.out).mono ?_; rintro e w9 ⟨rfl, hS, hb, hk⟩; clear hS HB S3; have HB := Aside0.mk hb; clear hb; have n2 := Aside0.mk (Kd.R_kept R2.out hk (fun k_ h1 h2 => absurd h1.2 (Nat.not_lt.2 h2.1))); have n4 := Aside0.mk (Kd.R_kept R4.out hk (fun k_ h1 h2 => absurd h2.2 (Nat.not_lt.2 h1.1))); clear R2 R4 hk; have R2 := n2; have R4 := n4; clear n2 n4)
  go_wp2_with (go_at_call 23; refine (laws_eqByteS.calls k _ _ t _ _ t true _ (Kd.R_reads' R4.out).2.2 (Kd.R_reads' R4.out).2.1 (Kd.R_reads' R2.out).2.2 (Kd.R_reads' R2.out).2.1 E5.out).mono ?_; rintro e w10 ⟨rfl, hd⟩; have hb := of_d hd; clear hd; have n_R2 := Aside0.mk (Kd.R_below R2.out hb); clear R2; have R2 := n_R2; clear n_R2; have n_R4 := Aside0.mk (Kd.R_below R4.out hb); clear R4; have R4 := n_R4; clear n_R4; have nB := Aside0.mk (below_step HB.out hb); clear HB; have HB := nB; clear nB; clear hb)
  go_wp2_with (go_at_call 25; refine (laws_markByteS.calls k (Zone w4.heap.size w5.heap.size) _ t 1 q t1 w _ HB.out (Kd.R_lower R4.out zw4.out) E8.out).mono ?_; rintro e w11 ⟨rfl, hR, hb, hk⟩; clear HB; have HB := Aside0.mk hb; clear hb; have n2 := Aside0.mk (Kd.R_kept R2.out hk (fun k_ h1 h2 => absurd h1.2 (Nat.not_lt.2 (Nat.le_trans zS3.out h2.1)))); have n4 := Aside0.mk (Kd.R_reok (ok := Zone w4.heap.size w5.heap.size) rfl hR (fun k_ hk_ => R4.out.1 k_ hk_)); clear R2 R4 hk hR; have R2 := n2; have R4 := n4; clear n2 n4)
  go_wp2_with (go_at_call 29; refine (held' k _ _ _ t1 HT.out 1 q _ (R_readsB R4.out).1 (R_readsB R4.out).2 E9.out).mono ?_; rintro e w12 ⟨rfl, hd⟩; have hb := of_d hd; clear hd; have n_R2 := Aside0.mk (Kd.R_below R2.out hb); clear R2; have R2 := n_R2; clear n_R2; have n_R4 := Aside0.mk (Kd.R_below R4.out hb); clear R4; have R4 := n_R4; clear n_R4; have nB := Aside0.mk (below_step HB.out hb); clear HB; have HB := nB; clear nB; clear hb)
  go_wp2_with (go_at_call 59; refine (laws_toByteSS.calls k _ _ l0 l0 _ (Kd.C_below HR0.out HB.out) HC0.out E2.out).mono ?_; rintro e w13 ⟨v_, rfl, hS, hb⟩; obtain ⟨AS6, cS6, ev⟩ := Kd.S_slice hS; subst ev; have S6 := Aside0.mk (S_zone hS); clear hS; have zS6 := Aside0.mk (below_size hb); have n_R2 := Aside0.mk (Kd.R_below R2.out hb); clear R2; have R2 := n_R2; clear n_R2; have n_R4 := Aside0.mk (Kd.R_below R4.out hb); clear R4; have R4 := n_R4; clear n_R4; have nB := Aside0.mk (below_step HB.out hb); clear HB; have HB := nB; clear nB; clear hb)
  go_wp2_with (go_at_call 46; refine (impl_TreeRoot.calls k _ _ l0 t _ (Kd.S_reads' S6.out).2.2 (Kd.S_reads' S6.out).2.1 E4.out).mono ?_; rintro e w14 ⟨v_, rfl, hR, hb⟩; clear S6 zS6; obtain ⟨AR7, cR7, ev⟩ := Kd.R_slice hR; subst ev; have R7 := Aside0.mk (R_zone hR); clear hR; have n_R2 := Aside0.mk (Kd.R_below R2.out hb); clear R2; have R2 := n_R2; clear n_R2; have n_R4 := Aside0.mk (Kd.R_below R4.out hb); clear R4; have R4 := n_R4; clear n_R4; have nB := Aside0.mk (below_step HB.out hb); clear HB; have HB := nB; clear nB; clear hb)
  go_wp2_with (go_at_call 23; refine (laws_eqByteS.calls k _ _ t _ _ t true _ (Kd.R_reads' R7.out).2.2 (Kd.R_reads' R7.out).2.1 (Kd.R_reads' R2.out).2.2 (Kd.R_reads' R2.out).2.1 E5.out).mono ?_; rintro e w15 ⟨rfl, hd⟩; have hb := of_d hd; clear hd; have n_R4 := Aside0.mk (Kd.R_below R4.out hb); clear R4; have R4 := n_R4; clear n_R4; have nB := Aside0.mk (below_step HB.out hb); clear HB; have HB := nB; clear nB; clear hb)
  go_wp2_with (go_at_call 29; refine (held' k _ _ _ t1 HT.out 1 q _ (R_readsB R4.out).1 (R_readsB R4.out).2 E9.out).mono ?_; rintro e w16 ⟨rfl, hd⟩; have hb := of_d hd; clear hd; have nB := Aside0.mk (below_step HB.out hb); clear HB; have HB := nB; clear nB; clear hb)
  go_ret
  exact ⟨rfl, HB.out⟩
set_option maxHeartbeats 8000000 in
set_option maxRecDepth 100000 in
theorem tr_short (k : Nat) (A0 : Option Addr) (c0 : Nat) (l0 : List (List Int)) (s : Int) (w : World) (hr0 : Kd.C (Kd.slice 5 (Kd.int .u8)) w A0 l0.length l0) (hc0 : l0.length ≤ c0)
    (e1 : laws_szByteSS.f k l0 1048576 = some s) (hs : s < 0) :
    Calls Try.prog 14 #[.slice A0 l0.length c0] w fun e w' => e = .returned (.bool true) ∧ Below w.heap.size w w' := by
  have HR0 := Aside0.mk hr0
  have HC0 := Aside0.mk hc0
  have E1 := Aside0.mk e1
  have b1 : decide (s < 0) = true := decide_eq_true hs
  clear hr0 hc0 e1 hs
  have HB := Aside0.mk (Below.refl w.heap.size w)
  go_enter Try.func14, Try.ntmps14
  go_wp2_with (go_at_call 57; refine (laws_szByteSS.calls k _ _ l0 1048576 s _ HR0.out HC0.out E1.out).mono ?_; rintro e w1 ⟨rfl, hd⟩; have hb := of_d hd; clear hd; have nB := Aside0.mk (below_step HB.out hb); clear HB; have HB := nB; clear nB; clear hb)
  go_ret
  exact ⟨rfl, HB.out⟩
end Go.Proofs.Ytjfhbmbiegccnaa.QFnExactTreeRoot