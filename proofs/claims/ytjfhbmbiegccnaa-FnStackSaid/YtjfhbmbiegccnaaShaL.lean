/- The reference block function where it refuses its arguments. No conditions but those typed. -/
import Derived.Test.YtjfhbmbiegccnaaShaI
import Derived.Test.YtjfhbmbiegccnaaShaP
namespace Go.Proofs.Ytjfhbmbiegccnaa.ShaBase
open Go.RowKit Go.Proofs.YtjfhbmbiegccnaaW.PrintWords Go.Proofs.YtjfhbmbiegccnaaW.PrintLast Go.Proofs.YtjfhbmbiegccnaaW.PrintMore
set_option linter.unusedVariables false
set_option linter.unusedSimpArgs false
theorem word3_yes (x : Int) (w : World) (h : Wd x) : Calls Try.prog 70 #[.int .i64 x] w fun e w' => e = .returned (.bool true) ∧ ∃ q, w' = w.drewN q :=
 (spec_l04Word.calls x true w (by rw [word_some, decide_eq_true h])).mono (fun e w' h => ⟨h.1, h.2.out⟩)
theorem word3_no (x : Int) (w : World) (h : ¬ Wd x) : Calls Try.prog 70 #[.int .i64 x] w fun e w' => e = .returned (.bool false) ∧ ∃ q, w' = w.drewN q :=
 (spec_l04Word.calls x false w (by rw [word_some, decide_eq_false h])).mono (fun e w' h => ⟨h.1, h.2.out⟩)
set_option maxHeartbeats 4000000 in
set_option maxRecDepth 100000 in
theorem spec_len0 (A0 : Option Addr) (c0 n0 : Nat) (A1 : Option Addr) (c1 n1 : Nat) (w : World) (h : ¬ n0 = 8) :
  Calls Try.prog 18 #[.slice A0 n0 c0, .slice A1 n1 c1] w fun e w' => e = .returned (.slice none 0 0) ∧ w = w' := by
 have hd : ((n0 : Int) != 8) = true := by simp; omega
 have hd2 : ((n0 : Int) == 8) = false := by simp; omega
 clear h
 go_enter Try.func18, Try.ntmps18
 go_wp2
 go_ret
 exact ⟨rfl, rfl⟩
set_option maxHeartbeats 4000000 in
set_option maxRecDepth 100000 in
theorem spec_len1 (A0 : Option Addr) (c0 : Nat) (A1 : Option Addr) (c1 n1 : Nat) (w : World) (h : ¬ n1 = 64) :
  Calls Try.prog 18 #[.slice A0 8 c0, .slice A1 n1 c1] w fun e w' => e = .returned (.slice none 0 0) ∧ w = w' := by
 have hd : ((n1 : Int) != 64) = true := by simp; omega
 have hd2 : ((n1 : Int) == 64) = false := by simp; omega
 clear h
 go_enter Try.func18, Try.ntmps18
 go_wp2
 go_ret
 exact ⟨rfl, rfl⟩
set_option maxHeartbeats 4000000 in
set_option maxRecDepth 100000 in
theorem spec_word (A0 : Option Addr) (c0 : Nat) (l0 : List Int) (A1 : Option Addr) (c1 : Nat) (w : World) (hr0 : Kd.C (Kd.int .i64) w A0 8 l0) (h : ¬ ∀ x ∈ l0, Wd x) :
  Calls Try.prog 18 #[.slice A0 8 c0, .slice A1 64 c1] w fun e w' => e = .returned (.slice none 0 0) ∧ Below w.heap.size w w' := by
 obtain ⟨z, hz0, hz1, hz2⟩ := first_bad l0 h
 have hl : l0.length = 8 := hr0.1
 have HR0 := Aside0.mk hr0
 have HZ0 := Aside0.mk (show z < 8 by omega)
 have HZ1 := Aside0.mk hz1
 have HZ2 := Aside0.mk hz2
 clear hr0 h hz0 hz1 hz2 hl
 go_enter Try.func18, Try.ntmps18
 go_wp2
 go_loopg [33] 8 (fun kq v33 w' => ∃ i : Nat, Aside0 (i ≤ z ∧ i + kq = 8) ∧ v33 = .int .i64 (i : Int) ∧ Aside0 (Below w.heap.size w w'))
 case atStart => exact ⟨0, ⟨by omega, by omega⟩, rfl, ⟨Below.refl _ _⟩⟩
 case round =>
  obtain ⟨i, HI, rfl, HB⟩ := hrel
  have hlt : i < 8 := by have := HI.out; have := HZ0.out; omega
  obtain ⟨ad, e1, hc1⟩ := Kd.at_int HR0.out (i : Int) (by omega) (by omega)
  cases e1
  rw [Int.toNat_natCast] at hc1
  replace hc1 := (HB.out.cell (World.block_lt_of_cell? w _ hc1)).trans hc1
  have p4 : ((i : Int) < 8) = True := eq_true (by omega)
  have p5 : (i < 8) = True := eq_true (by omega)
  clear hlt
  by_cases hiz : i = z
  ·
   subst hiz
   go_wp2_with (go_at_call 70; refine (word3_no _ _ HZ1.out).mono ?_; rintro e w' ⟨rfl, qd, rfl⟩)
   go_ret
   exact ⟨rfl, by apply pw_below_drewN; exact HB.out⟩
  ·
   have hx := Aside0.mk (HZ2.out i (by have := HI.out; omega))
   have HI2 := Aside0.mk (show i + 1 ≤ z by have := HI.out; omega)
   clear hiz
   go_wp2_with (go_at_call 70; refine (word3_yes _ _ hx.out).mono ?_; rintro e w' ⟨rfl, qd, rfl⟩)
   go_roundg (gk - 1)
   case measure => have := HI.out; have := of_eq_true p5; omega
   case rel => exact ⟨i + 1, ⟨HI2.out, by have := HI.out; have := of_eq_true p5; omega⟩, (by first | go_num | (congr 1; unfold wrap64; omega) | (have := of_eq_true p5; congr 1; unfold wrap64; omega)), ⟨by apply pw_below_drewN; exact HB.out⟩⟩
end Go.Proofs.Ytjfhbmbiegccnaa.ShaBase
