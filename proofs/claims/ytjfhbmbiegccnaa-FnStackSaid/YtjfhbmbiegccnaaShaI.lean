/- The program's block function where it refuses its arguments. No conditions but those typed. -/
import Derived.Test.YtjfhbmbiegccnaaShaD
namespace Go.Proofs.Ytjfhbmbiegccnaa.ShaBase
open Go.RowKit Go.Proofs.YtjfhbmbiegccnaaW.PrintWords Go.Proofs.YtjfhbmbiegccnaaW.PrintLast Go.Proofs.YtjfhbmbiegccnaaW.PrintMore
set_option linter.unusedVariables false
set_option linter.unusedSimpArgs false
set_option maxHeartbeats 4000000 in
set_option maxRecDepth 100000 in
theorem sb_len0 (A0 : Option Addr) (c0 n0 : Nat) (A1 : Option Addr) (c1 n1 : Nat) (w : World) (h : ¬ n0 = 8) :
  Calls Try.prog 21 #[.slice A0 n0 c0, .slice A1 n1 c1] w fun e w' => e = .returned (.slice none 0 0) ∧ w = w' := by
 have hd : ((n0 : Int) != 8) = true := by simp; omega
 have hd2 : ((n0 : Int) == 8) = false := by simp; omega
 clear h
 go_enter Try.func21, Try.ntmps21
 go_wp2
 go_ret
 exact ⟨rfl, rfl⟩
set_option maxHeartbeats 4000000 in
set_option maxRecDepth 100000 in
theorem sb_len1 (A0 : Option Addr) (c0 : Nat) (A1 : Option Addr) (c1 n1 : Nat) (w : World) (h : ¬ n1 = 64) :
  Calls Try.prog 21 #[.slice A0 8 c0, .slice A1 n1 c1] w fun e w' => e = .returned (.slice none 0 0) ∧ w = w' := by
 have hd : ((n1 : Int) != 64) = true := by simp; omega
 have hd2 : ((n1 : Int) == 64) = false := by simp; omega
 clear h
 go_enter Try.func21, Try.ntmps21
 go_wp2
 go_ret
 exact ⟨rfl, rfl⟩
theorem first_bad (l : List Int) (h : ¬ ∀ x ∈ l, Wd x) : ∃ i : Nat, i < l.length ∧ ¬ Wd (rd l (i : Int)) ∧ ∀ j : Nat, j < i → Wd (rd l (j : Int)) := by
 induction l with
 | nil => exact absurd (fun x hx => by cases hx) h
 | cons a l ih =>
  by_cases ha : Wd a
  ·
   obtain ⟨i, h1, h2, h3⟩ := ih (fun q => h (fun x hx => by
    rcases List.mem_cons.1 hx with rfl | hx
    ·
     exact ha
    ·
     exact q x hx))
   refine ⟨i + 1, by simp; omega, ?_, ?_⟩
   ·
    simpa [rd] using h2
   ·
    intro j hj
    cases j with
    | zero => simpa [rd] using ha
    | succ j => simpa [rd] using h3 j (by omega)
  ·
   exact ⟨0, by simp, by simpa [rd] using ha, fun j hj => by omega⟩
set_option maxHeartbeats 4000000 in
set_option maxRecDepth 100000 in
theorem sb_word (A0 : Option Addr) (c0 : Nat) (l0 : List Int) (A1 : Option Addr) (c1 : Nat) (w : World) (hr0 : Kd.C (Kd.int .i64) w A0 8 l0) (h : ¬ ∀ x ∈ l0, Wd x) :
  Calls Try.prog 21 #[.slice A0 8 c0, .slice A1 64 c1] w fun e w' => e = .returned (.slice none 0 0) ∧ w = w' := by
 obtain ⟨z, hz0, hz1, hz2⟩ := first_bad l0 h
 have hl : l0.length = 8 := hr0.1
 have HR0 := Aside0.mk hr0
 have HZ0 := Aside0.mk (show z < 8 by omega)
 have HZ1 := Aside0.mk hz1
 have HZ2 := Aside0.mk hz2
 clear hr0 h hz0 hz1 hz2 hl
 go_enter Try.func21, Try.ntmps21
 go_wp2
 go_loop [35] (fun u => ∃ i : Nat, Aside0 (i ≤ z) ∧ u = .int .i64 i) (fun u => 8 - (intOf u).toNat)
 case atStart => exact ⟨0, ⟨by omega⟩, rfl⟩
 case round =>
  obtain ⟨i, HI, rfl⟩ := hrel
  have hlt : i < 8 := by have := HI.out; have := HZ0.out; omega
  obtain ⟨ad, e1, hc1⟩ := Kd.at_int HR0.out (i : Int) (by omega) (by omega)
  cases e1
  rw [Int.toNat_natCast] at hc1
  by_cases hiz : i = z
  ·
   subst hiz
   have hx := Aside0.mk (show ¬ (0 ≤ rd l0 (i : Int) ∧ rd l0 (i : Int) ≤ 4294967295) from HZ1.out)
   go_wp2_with (go_at_call 73; refine (word_no _ _ hx.out).mono ?_; rintro e w' ⟨rfl, rfl⟩)
   go_ret
   exact ⟨rfl, rfl⟩
  ·
   have hx := Aside0.mk (HZ2.out i (by have := HI.out; omega))
   have HI2 := Aside0.mk (show i + 1 ≤ z by have := HI.out; omega)
   clear hiz
   go_wp2_with (go_at_call 73; refine (word_yes _ _ hx.out.1 hx.out.2).mono ?_; rintro e w' ⟨rfl, rfl⟩)
   go_round
   case rel => exact ⟨i + 1, HI2, by go_num⟩
   case measure => simp [intOf]; omega
end Go.Proofs.Ytjfhbmbiegccnaa.ShaBase
