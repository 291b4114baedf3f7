/- The contracts of the two block functions, for all arguments: both come to the plain block function. No conditions but those typed. -/
import Derived.Test.YtjfhbmbiegccnaaShaE
import Derived.Test.YtjfhbmbiegccnaaShaI
import Derived.Test.YtjfhbmbiegccnaaShaH
import Derived.Test.YtjfhbmbiegccnaaShaL
namespace Go.Proofs.Ytjfhbmbiegccnaa.ShaBase
open Go.RowKit Go.Proofs.YtjfhbmbiegccnaaW.PrintWords Go.Proofs.YtjfhbmbiegccnaaW.PrintLast Go.Proofs.YtjfhbmbiegccnaaW.PrintMore
set_option linter.unusedVariables false
set_option linter.unusedSimpArgs false
theorem impl_block (A0 : Option Addr) (c0 : Nat) (l0 : List Int) (A1 : Option Addr) (c1 : Nat) (l1 : List Int) (w : World) (hr0 : Kd.C (Kd.int .i64) w A0 l0.length l0) (hr1 : Kd.C (Kd.int .u8) w A1 l1.length l1) (hb : ∀ x ∈ l1, 0 ≤ x ∧ x ≤ 255) :
  Calls Try.prog 21 #[.slice A0 l0.length c0, .slice A1 l1.length c1] w fun e w' => ∃ v0_ : Value, e = .returned (v0_) ∧ Kd.R (Kd.int .i64) 3 w' w.heap.size (fun _ => True) v0_ (blockOf l0 l1) ∧ Below w.heap.size w w' := by
 by_cases h0 : l0.length = 8
 ·
  by_cases h1 : l1.length = 64
  ·
   by_cases h2 : ∀ x ∈ l0, Wd x
   ·
    rw [h0] at hr0 ⊢
    rw [h1] at hr1 ⊢
    unfold blockOf
    rw [if_pos ⟨h0, h1, h2⟩]
    exact sb_good A0 c0 l0 A1 c1 l1 w hr0 hr1 h2 hb
   ·
    rw [h0] at hr0 ⊢
    rw [h1]
    unfold blockOf
    rw [if_neg (fun q => h2 q.2.2)]
    refine (sb_word A0 c0 l0 A1 c1 w hr0 h2).mono ?_
    rintro e w' ⟨rfl, rfl⟩
    exact ⟨_, rfl, Kd.R_nil _ _ _ _ _, Below.refl _ _⟩
  ·
   rw [h0]
   unfold blockOf
   rw [if_neg (fun q => h1 q.2.1)]
   refine (sb_len1 A0 c0 A1 c1 l1.length w h1).mono ?_
   rintro e w' ⟨rfl, rfl⟩
   exact ⟨_, rfl, Kd.R_nil _ _ _ _ _, Below.refl _ _⟩
 ·
  unfold blockOf
  rw [if_neg (fun q => h0 q.1)]
  refine (sb_len0 A0 c0 l0.length A1 c1 l1.length w h0).mono ?_
  rintro e w' ⟨rfl, rfl⟩
  exact ⟨_, rfl, Kd.R_nil _ _ _ _ _, Below.refl _ _⟩
theorem spec_block (A0 : Option Addr) (c0 : Nat) (l0 : List Int) (A1 : Option Addr) (c1 : Nat) (l1 : List Int) (w : World) (hr0 : Kd.C (Kd.int .i64) w A0 l0.length l0) (hc0 : l0.length ≤ c0) (hr1 : Kd.C (Kd.int .u8) w A1 l1.length l1) (hc1 : l1.length ≤ c1) :
  Calls Try.prog 18 #[.slice A0 l0.length c0, .slice A1 l1.length c1] w fun e w' => ∃ v0_ : Value, e = .returned (v0_) ∧ Kd.R (Kd.int .i64) 3 w' w.heap.size (fun _ => True) v0_ (blockOf l0 l1) ∧ Below w.heap.size w w' := by
 by_cases h0 : l0.length = 8
 ·
  by_cases h1 : l1.length = 64
  ·
   by_cases h2 : ∀ x ∈ l0, Wd x
   ·
    rw [h0] at hr0 ⊢
    rw [h1] at hr1 ⊢
    unfold blockOf
    rw [if_pos ⟨h0, h1, h2⟩]
    exact spec_good A0 c0 l0 A1 c1 l1 w hr0 hr1 h2
   ·
    rw [h0] at hr0 ⊢
    rw [h1]
    unfold blockOf
    rw [if_neg (fun q => h2 q.2.2)]
    refine (spec_word A0 c0 l0 A1 c1 w hr0 h2).mono ?_
    rintro e w' ⟨rfl, hb⟩
    exact ⟨_, rfl, Kd.R_nil _ _ _ _ _, hb⟩
  ·
   rw [h0]
   unfold blockOf
   rw [if_neg (fun q => h1 q.2.1)]
   refine (spec_len1 A0 c0 A1 c1 l1.length w h1).mono ?_
   rintro e w' ⟨rfl, rfl⟩
   exact ⟨_, rfl, Kd.R_nil _ _ _ _ _, Below.refl _ _⟩
 ·
  unfold blockOf
  rw [if_neg (fun q => h0 q.1)]
  refine (spec_len0 A0 c0 l0.length A1 c1 l1.length w h0).mono ?_
  rintro e w' ⟨rfl, rfl⟩
  exact ⟨_, rfl, Kd.R_nil _ _ _ _ _, Below.refl _ _⟩
end Go.Proofs.Ytjfhbmbiegccnaa.ShaBase
