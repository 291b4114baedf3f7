/- The program's number of a text: its contract; the law's walk. No conditions but those typed. -/
import Derived.Test.YtdhbfpfonnelgaaDoorNumC
namespace Go.Proofs.YtdhbfpfonnelgaaDoor.NumBase
open Go.RowKit Go.Proofs.YtdhbfpfonnelgaaDoorW.PrintWords Go.Proofs.YtdhbfpfonnelgaaDoorW.PrintLast Go.Proofs.YtdhbfpfonnelgaaDoorW.PrintMore Go.Proofs.YtdhbfpfonnelgaaDoor.Lib
set_option linter.unusedVariables false
set_option linter.unusedSimpArgs false
/-- What the listed variables hold. -/
structure Vars (w : World) : Prop where
  tab : Tab w
  syn : ∃ tp p, w.var? Tryd.prog "strconv.ErrSyntax" = some #[.iface tp p]
  rng : ∃ tp p, w.var? Tryd.prog "strconv.ErrRange" = some #[.iface tp p]
theorem Vars.below {w w' : World} (h : Vars w) (hb : Below w.heap.size w w') : Vars w' :=
  ⟨h.tab.below hb, h.syn.imp fun _ h => h.imp fun _ h => var_below hb h, h.rng.imp fun _ h => h.imp fun _ h => var_below hb h⟩
theorem atoi_ok (s : ByteArray) (hs : s.size ≤ 1048576) (v : Int) (h : Go.Lib.atoiAll s.data.toList = .ok v) (w : World) :
    Calls Tryd.prog 25 #[.string s] w fun e w' => e = .returned (.tuple #[.int .i64 v, .nilIface]) ∧ Below w.heap.size w w' := by
  refine (Tryd.strconv_Atoi_ok s (by omega) v h w).mono ?_
  rintro e w' ⟨rfl, rfl | ⟨t, rfl⟩⟩
  · exact ⟨rfl, Below.refl _ _⟩
  · exact ⟨rfl, Go.Lib.bytesWorld_below _ _ _⟩
theorem atoi_bad (s : ByteArray) (hs : s.size ≤ 1048576) (h : ∀ v, Go.Lib.atoiAll s.data.toList ≠ .ok v) (w : World) (hv : Vars w) :
    Calls Tryd.prog 25 #[.string s] w fun e w' => (∃ x N, e = .returned (.tuple #[.int .i64 x, .iface 64 (.pointer (some ⟨N, 0, none⟩))])) ∧ Below w.heap.size w w' := by
  cases hc : Go.Lib.atoiAll s.data.toList with
  | ok v => exact absurd hc (h v)
  | «syntax» =>
    obtain ⟨tp, p, hq⟩ := hv.syn
    refine (Tryd.strconv_Atoi_syntax_var s (by omega) hc tp p w hq).mono ?_
    rintro e w' ⟨N, rfl, _, _, hb⟩
    exact ⟨⟨_, N, rfl⟩, hb⟩
  | range =>
    obtain ⟨tp, p, hq⟩ := hv.rng
    refine (Tryd.strconv_Atoi_range_var s (by omega) hc tp p w hq).mono ?_
    rintro e w' ⟨N, rfl, _, _, hb⟩
    exact ⟨⟨_, N, rfl⟩, hb⟩
set_option maxHeartbeats 1000000 in
theorem impl_yes (s : ByteArray) (n : Nat) (h : IsNumText s n) (hs : s.size ≤ 1048576) (w : World) (hv : Vars w) :
    Calls Tryd.prog 9 #[.string s] w fun e w' => e = .returned (.tuple #[.int .i64 n, .bool true]) ∧ Below w.heap.size w w' := by
  obtain ⟨hn, he⟩ := h
  have ha : Go.Lib.atoiAll s.data.toList = .ok (n : Int) := by
    rw [he]
    have hd : (decText n).data.toList = Go.Lib.decDigits n := by simp [decText]
    rw [hd]
    exact atoi_dec n hn
  have hnt : numText (n : Int) = s := by rw [numText_nat hn, he]
  have HA := Aside0.mk ha
  have HS := Aside0.mk hs
  have HV := Aside0.mk hv
  have HN := Aside0.mk hn
  have HT := Aside0.mk hnt
  clear ha hs hv hn hnt he
  go_enter Tryd.func9, Tryd.ntmps9
  go_wp2_with (first | (go_at_call 25; refine (atoi_ok s HS.out _ HA.out _).mono ?_; rintro e w1 ⟨rfl, hb1⟩; have HB1 := Aside0.mk hb1; clear hb1) | (go_at_call 23; refine (num_yes _ _ ⟨by have := HN.out; omega, by have := HN.out; omega⟩).mono ?_; rintro e w' ⟨rfl, q, rfl⟩) | (go_at_call 7; refine (impl_numText _ _ ((HV.out.tab.below HB1.out).below (pw_below_drewN (Below.refl _ _) _)) (by have := HN.out; omega) (by have := HN.out; omega)).mono ?_; rintro e w2 ⟨rfl, hb2⟩; rw [HT.out]; have HB2 := Aside0.mk hb2; clear hb2))
  go_ret2
  exact ⟨rfl, below_step (below_step HB1.out (pw_below_drewN (Below.refl _ _) _)) HB2.out⟩
set_option maxHeartbeats 1000000 in
theorem impl_no (s : ByteArray) (hno : ∀ n, ¬ IsNumText s n) (hs : s.size ≤ 1048576) (w : World) (hv : Vars w) :
    Calls Tryd.prog 9 #[.string s] w fun e w' => e = .returned (.tuple #[.int .i64 0, .bool false]) ∧ Below w.heap.size w w' := by
  by_cases hok : ∃ v, Go.Lib.atoiAll s.data.toList = .ok v
  · obtain ⟨v, ha⟩ := hok
    have hbd := Go.Lib.atoiAll_bounds ha
    have HA := Aside0.mk ha
    have HS := Aside0.mk hs
    have HV := Aside0.mk hv
    have HBD := Aside0.mk hbd
    by_cases hn : 0 ≤ v ∧ v ≤ 1152921504606846975
    · have hne : numText v ≠ s := fun e => by
        obtain ⟨m, rfl⟩ := Int.eq_ofNat_of_zero_le hn.1
        rw [numText_nat (by omega)] at e
        exact hno m ⟨by omega, e.symm⟩
      have HN := Aside0.mk hn
      obtain ⟨t, ht⟩ : ∃ t, t = numText v := ⟨_, rfl⟩
      have HTE := Aside0.mk ht
      rw [← ht] at hne
      have d1 : (t.toList == s.toList) = false := by
        rw [beq_eq_false_iff_ne]
        exact fun e => hne (toList_inj e)
      have d2 : (t.toList != s.toList) = true := by
        rw [bne_iff_ne]
        exact fun e => hne (toList_inj e)
      have d3 : ¬ t.toList = s.toList := fun e => hne (toList_inj e)
      have d4 : decide (t = s) = false := decide_eq_false hne
      clear ha hs hv hn hbd ht hno
      go_enter Tryd.func9, Tryd.ntmps9
      go_wp2_with (first | (go_at_call 25; refine (atoi_ok s HS.out _ HA.out _).mono ?_; rintro e w1 ⟨rfl, hb1⟩; have HB1 := Aside0.mk hb1; clear hb1) | (go_at_call 23; refine (num_yes _ _ HN.out).mono ?_; rintro e w' ⟨rfl, q, rfl⟩) | (go_at_call 7; refine (impl_numText _ _ ((HV.out.tab.below HB1.out).below (pw_below_drewN (Below.refl _ _) _)) HBD.out.1 HBD.out.2).mono ?_; rintro e w2 ⟨rfl, hb2⟩; rw [← HTE.out]; have HB2 := Aside0.mk hb2; clear hb2))
      go_ret2
      exact ⟨rfl, below_step (below_step HB1.out (pw_below_drewN (Below.refl _ _) _)) HB2.out⟩
    · have HN := Aside0.mk hn
      clear ha hs hv hn hbd hno
      go_enter Tryd.func9, Tryd.ntmps9
      go_wp2_with (first | (go_at_call 25; refine (atoi_ok s HS.out _ HA.out _).mono ?_; rintro e w1 ⟨rfl, hb1⟩; have HB1 := Aside0.mk hb1; clear hb1) | (go_at_call 23; refine (num_no _ _ HN.out).mono ?_; rintro e w' ⟨rfl, q, rfl⟩))
      go_ret2
      exact ⟨rfl, below_step HB1.out (pw_below_drewN (Below.refl _ _) _)⟩
  · have HA := Aside0.mk (show ∀ v, Go.Lib.atoiAll s.data.toList ≠ .ok v from fun v e => hok ⟨v, e⟩)
    have HS := Aside0.mk hs
    have HV := Aside0.mk hv
    clear hok hs hv hno
    go_enter Tryd.func9, Tryd.ntmps9
    go_wp2_with (first | (go_at_call 25; refine (atoi_bad s HS.out HA.out _ HV.out).mono ?_; rintro e w1 ⟨⟨x, N, rfl⟩, hb1⟩; have HB1 := Aside0.mk hb1; clear hb1))
    go_ret2
    exact ⟨rfl, HB1.out⟩
set_option maxHeartbeats 1000000 in
theorem law_textNum (s : ByteArray) (w : World) (hv : Vars w) (hm : s.size ≤ 9223372036854775807) :
    Calls Tryd.prog 4 #[.string s] w fun e w' => e = .returned (.bool true) ∧ Below w.heap.size w w' := by
  by_cases hbig : s.size ≤ 1048576
  · have key : ∃ (x : Int) (b : Bool), (∃ k, spec_TextNum.f k s = some (x, b)) ∧ ∀ w1, Vars w1 → Calls Tryd.prog 9 #[.string s] w1 fun e w' => e = .returned (.tuple #[.int .i64 x, .bool b]) ∧ Below w1.heap.size w1 w' := by
      by_cases h : ∃ n, IsNumText s n
      · obtain ⟨n, h⟩ := h
        exact ⟨n, true, (spec_yes s n h).rounds, fun w1 h1 => impl_yes s n h hbig w1 h1⟩
      · have hno : ∀ n, ¬ IsNumText s n := fun n q => h ⟨n, q⟩
        exact ⟨0, false, (spec_no s hno).rounds, fun w1 h1 => impl_no s hno hbig w1 h1⟩
    obtain ⟨x, b, ⟨k, hk⟩, hi⟩ := key
    have HK := Aside0.mk hk
    have HI := Aside0.mk hi
    have HV := Aside0.mk hv
    have hd : decide ((s.size : Int) > 1048576) = false := decide_eq_false (by omega)
    have hd2 : decide ((1048576 : Int) < (s.size : Int)) = false := decide_eq_false (by omega)
    clear hk hi hv hbig hm
    go_enter Tryd.func4, Tryd.ntmps4
    go_wp2_with (first | (go_at_call 8; refine (spec_TextNum.calls k s x b _ HK.out).mono ?_; rintro e w1 ⟨rfl, hb1⟩; have HB1 := Aside0.mk hb1; clear hb1) | (go_at_call 9; refine (HI.out _ (HV.out.below HB1.out)).mono ?_; rintro e w2 ⟨rfl, hb2⟩; have HB2 := Aside0.mk hb2; clear hb2))
    go_ret
    exact ⟨rfl, below_step HB1.out HB2.out⟩
  · have hd : decide ((s.size : Int) > 1048576) = true := decide_eq_true (by omega)
    have hd2 : decide ((1048576 : Int) < (s.size : Int)) = true := decide_eq_true (by omega)
    clear hbig hm hv
    go_enter Tryd.func4, Tryd.ntmps4
    go_wp2
    go_ret
    exact ⟨rfl, Below.refl _ _⟩
end Go.Proofs.YtdhbfpfonnelgaaDoor.NumBase
