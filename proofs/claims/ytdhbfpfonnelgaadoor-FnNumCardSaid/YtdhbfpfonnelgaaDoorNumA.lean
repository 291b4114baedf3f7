/- A number as text, as a plain function: what the reference's function comes to. No conditions but those typed. -/
import Derived.Test.YtdhbfpfonnelgaaDoorNumBase
import Derived.Test.YtdhbfpfonnelgaaDoorLib
import Derived.Test.YtdhbfpfonnelgaaDoorShelf
namespace Go.Proofs.YtdhbfpfonnelgaaDoor.NumBase
open Go.RowKit Go.Proofs.YtdhbfpfonnelgaaDoorW.PrintWords Go.Proofs.YtdhbfpfonnelgaaDoorW.PrintLast Go.Proofs.YtdhbfpfonnelgaaDoorW.PrintMore Go.Proofs.YtdhbfpfonnelgaaDoor.Lib
set_option linter.unusedVariables false
set_option linter.unusedSimpArgs false
def decText (n : Nat) : ByteArray := ⟨(Go.Lib.decDigits n).toArray⟩
def numText (n : Int) : ByteArray := if 0 ≤ n ∧ n ≤ 1152921504606846975 then decText n.toNat else ⟨#[]⟩
theorem ba_ext {a b : ByteArray} (h : a.data.toList = b.data.toList) : a = b := by
  cases a
  cases b
  simp at h
  congr 1
theorem ba_append (a b : ByteArray) : (a ++ b).data.toList = a.data.toList ++ b.data.toList := by
  rw [ByteArray.data_append, Array.toList_append]
theorem strOf_one (x : Int) : (strOfNums [x]).data.toList = [x.toNat.toUInt8] := by
  simp [strOfNums]
theorem dec_small {n : Nat} (h : n < 10) : Go.Lib.decDigits n = [UInt8.ofNat (48 + n)] := by
  rw [Go.Lib.decDigits, dif_pos h]
theorem dec_big {n : Nat} (h : ¬ n < 10) : Go.Lib.decDigits n = Go.Lib.decDigits (n / 10) ++ [UInt8.ofNat (48 + n % 10)] := by
  rw [Go.Lib.decDigits, dif_neg h]
theorem size_toList (s : ByteArray) : s.size = s.data.toList.length := by rw [Array.length_toList]; rfl
theorem numText_l0 : ∀ (m n : Nat) (s : ByteArray), n < 10 ^ (m + 1) → n ≤ 1152921504606846975 → s.size + m ≤ 100 → Ev (fun k => spec_NumText.l0 k (n : Int) s) (decText n ++ s) := by
  intro m
  induction m with
  | zero =>
    intro n s hn hb hs
    have hs1 : (strOfNums [(wrap64 (48 + (n : Int))) % 256]).size = 1 := by rw [size_toList, strOf_one]; rfl
    refine Ev.step (fun _ => rfl) (ev_neg (by omega) (ev_bind0 rfl (ev_pos (by rw [hs1]; omega) (ev_some (ba_ext ?_)))))
    rw [ba_append, ba_append, strOf_one, decText, dec_small (by omega)]
    have : ((wrap64 (48 + (n : Int))) % 256).toNat = 48 + n := by rw [wrap_in (by omega) (by omega)]; omega
    rw [this]
  | succ m ih =>
    intro n s hn hb hs
    by_cases h : n < 10
    · have hs1 : (strOfNums [(wrap64 (48 + (n : Int))) % 256]).size = 1 := by rw [size_toList, strOf_one]; rfl
      refine Ev.step (fun _ => rfl) (ev_neg (by omega) (ev_bind0 rfl (ev_pos (by rw [hs1]; omega) (ev_some (ba_ext ?_)))))
      rw [ba_append, ba_append, strOf_one, decText, dec_small (by omega)]
      have : ((wrap64 (48 + (n : Int))) % 256).toNat = 48 + n := by rw [wrap_in (by omega) (by omega)]; omega
      rw [this]
    · have hs1 : (strOfNums [(wrap64 (48 + (Int.tmod (n : Int) 10))) % 256]).size = 1 := by rw [size_toList, strOf_one]; rfl
      have t1 : Int.tmod (n : Int) 10 = ((n % 10 : Nat) : Int) := by rw [Int.tmod_eq_emod_of_nonneg (by omega)]; omega
      have t2 : wrap64 (Int.tdiv (n : Int) 10) = ((n / 10 : Nat) : Int) := by rw [Int.tdiv_eq_ediv_of_nonneg (by omega), wrap_in (by omega) (by omega)]; omega
      have hp : n / 10 < 10 ^ (m + 1) := by
        rw [Nat.pow_succ] at hn
        omega
      have hsz : (strOfNums [(wrap64 (48 + (Int.tmod (n : Int) 10))) % 256] ++ s).size = 1 + s.size := by rw [size_toList, ba_append, List.length_append, ← size_toList, ← size_toList, hs1]
      have := ih (n / 10) (strOfNums [(wrap64 (48 + (Int.tmod (n : Int) 10))) % 256] ++ s) hp (by omega) (by omega)
      refine Ev.step (fun _ => rfl) (ev_pos (by omega) (ev_bind0 rfl (ev_pos (by rw [hs1]; omega) ?_)))
      rw [t2]
      refine ev_eq (ba_ext ?_) this
      rw [ba_append, ba_append, ba_append, strOf_one, decText, decText, dec_big h, t1]
      have : ((wrap64 (48 + ((n % 10 : Nat) : Int))) % 256).toNat = 48 + n % 10 := by rw [wrap_in (by omega) (by omega)]; omega
      rw [this]
      simp
theorem spec_numText (n : Int) : Ev (fun k => spec_NumText.f k n) (numText n) := by
  unfold spec_NumText.f numText
  have hw : spec_l01Num.f n = some (decide (0 ≤ n ∧ n ≤ 1152921504606846975)) := by
    unfold spec_l01Num.f spec_l01In.f
    by_cases h : 0 ≤ n
    · rw [if_pos h]
      simp [h]
    · rw [if_neg h]
      simp [h]
  refine ev_bind0 hw ?_
  by_cases h : 0 ≤ n ∧ n ≤ 1152921504606846975
  · rw [if_pos h]
    refine ev_pos (decide_eq_true h) ?_
    obtain ⟨m, rfl⟩ := Int.eq_ofNat_of_zero_le h.1
    have := numText_l0 18 m ⟨#[]⟩ (by omega) (by omega) (by decide)
    refine ev_eq (ba_ext ?_) this
    rw [ba_append]
    simp
  · rw [if_neg h]
    exact ev_neg (by simpa using h) (Ev.now _)
/-- What a variable holds stays, below what was there. -/
theorem var_below {P : Program} {w w' : World} {name : String} {cs : Array Value} (hb : Below w.heap.size w w') (h : w.var? P name = some cs) : w'.var? P name = some cs := by
  unfold World.var? at h ⊢
  obtain ⟨g, hg, h2⟩ := Option.bind_eq_some_iff.1 h
  rw [hg, Option.bind_some]
  have hlt : g < w.heap.size := by
    by_cases hl : g < w.heap.size
    · exact hl
    · rw [Array.getElem?_eq_none (by omega)] at h2
      cases h2
  rw [hb.block g hlt]
  exact h2
theorem grow_below (B : Nat) (w : World) (hB : B ≤ w.heap.size) (k : Nat) (os : Array Obj) : Below B w (Go.Sort.grow (w.drewN k) os) := by
  refine ⟨rfl, rfl, rfl, by simp [Go.Sort.grow, World.drewN], fun j hj => ?_⟩
  show (w.heap ++ os)[j]? = w.heap[j]?
  rw [Array.getElem?_append_left (by omega)]
abbrev Tab (w : World) : Prop := Go.Lib.TabIs Tryd.prog w "internal/strconv.uint64pow10" .u64 Go.Lib.pow10Tab
theorem Tab.below {w w' : World} (h : Tab w) (hb : Below w.heap.size w w') : Tab w' := var_below hb h
theorem num_yes (n : Int) (w : World) (h : 0 ≤ n ∧ n ≤ 1152921504606846975) : Calls Tryd.prog 23 #[.int .i64 n] w fun e w' => e = .returned (.bool true) ∧ ∃ q, w' = w.drewN q :=
  (impl_isNum.calls n true w (by unfold impl_isNum.f impl_within.f; rw [if_pos h.1, decide_eq_true h.2]; rfl)).mono (fun e w' h => ⟨h.1, h.2.out⟩)
theorem num_no (n : Int) (w : World) (h : ¬ (0 ≤ n ∧ n ≤ 1152921504606846975)) : Calls Tryd.prog 23 #[.int .i64 n] w fun e w' => e = .returned (.bool false) ∧ ∃ q, w' = w.drewN q := by
  refine (impl_isNum.calls n false w ?_).mono (fun e w' h => ⟨h.1, h.2.out⟩)
  unfold impl_isNum.f impl_within.f
  by_cases h0 : 0 ≤ n
  · rw [if_pos h0, decide_eq_false (fun q => h ⟨h0, q⟩)]
    rfl
  · rw [if_neg h0]
    rfl
set_option maxHeartbeats 1000000 in
theorem impl_numText (n : Int) (w : World) (ht : Tab w) (h0 : -9223372036854775808 ≤ n) (h1 : n ≤ 9223372036854775807) :
    Calls Tryd.prog 7 #[.int .i64 n] w fun e w' => e = .returned (.string (numText n)) ∧ Below w.heap.size w w' := by
  have HT := Aside0.mk ht
  have H0 := Aside0.mk h0
  have H1 := Aside0.mk h1
  clear ht h0 h1
  by_cases h : 0 ≤ n ∧ n ≤ 1152921504606846975
  · have HN := Aside0.mk h
    have e1 : numText n = ⟨(Go.Lib.itoa n).toArray⟩ := by
      unfold numText Go.Lib.itoa
      rw [if_pos h, if_neg (by omega)]
      rfl
    rw [e1]
    clear h e1
    go_enter Tryd.func7, Tryd.ntmps7
    go_wp2_with (first | (go_at_call 23; refine (num_yes _ _ HN.out).mono ?_; rintro e w' ⟨rfl, q, rfl⟩) | (go_at_call 24; refine (Tryd.strconv_Itoa _ H0.out H1.out _ (HT.out.below (pw_below_drewN (Below.refl _ _) _))).mono ?_; rintro e w' ⟨rfl, k, os, rfl⟩))
    go_ret
    exact ⟨rfl, grow_below _ _ (Nat.le_refl _) _ _⟩
  · have HN := Aside0.mk h
    have e1 : numText n = ⟨#[]⟩ := by
      unfold numText
      rw [if_neg h]
    rw [e1]
    clear h e1
    go_enter Tryd.func7, Tryd.ntmps7
    go_wp2_with (first | (go_at_call 23; refine (num_no _ _ HN.out).mono ?_; rintro e w' ⟨rfl, q, rfl⟩))
    go_ret
    exact ⟨rfl, pw_below_drewN (Below.refl _ _) _⟩
set_option maxHeartbeats 1000000 in
theorem law_numText (n : Int) (w : World) (ht : Tab w) (h0 : -9223372036854775808 ≤ n) (h1 : n ≤ 9223372036854775807) :
    Calls Tryd.prog 3 #[.int .i64 n] w fun e w' => e = .returned (.bool true) ∧ Below w.heap.size w w' := by
  obtain ⟨k, hk⟩ := (spec_numText n).rounds
  have HK := Aside0.mk hk
  have HT := Aside0.mk ht
  have H0 := Aside0.mk h0
  have H1 := Aside0.mk h1
  clear ht h0 h1 hk
  generalize hs : numText n = s at HK
  have HS := Aside0.mk hs
  clear hs
  go_enter Tryd.func3, Tryd.ntmps3
  go_wp2_with (first | (go_at_call 6; refine (spec_NumText.calls k n s _ HK.out).mono ?_; rintro e w1 ⟨rfl, hb1⟩; have HB1 := Aside0.mk hb1; clear hb1) | (go_at_call 7; refine (impl_numText n _ (HT.out.below HB1.out) H0.out H1.out).mono ?_; rintro e w2 ⟨rfl, hb2⟩; rw [HS.out]; have HB2 := Aside0.mk hb2; clear hb2))
  go_ret
  exact ⟨rfl, below_step HB1.out HB2.out⟩
end Go.Proofs.YtdhbfpfonnelgaaDoor.NumBase
