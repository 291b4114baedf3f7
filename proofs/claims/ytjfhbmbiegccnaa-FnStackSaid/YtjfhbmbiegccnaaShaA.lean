import Derived.Test.YtjfhbmbiegccnaaShaBase
namespace Go.Proofs.Ytjfhbmbiegccnaa.ShaBase
open Go.RowKit Go.Proofs.YtjfhbmbiegccnaaW.PrintWords Go.Proofs.YtjfhbmbiegccnaaW.PrintLast Go.Proofs.YtjfhbmbiegccnaaW.PrintMore
set_option linter.unusedVariables false
set_option linter.unusedSimpArgs false
def sh_rot (x n : Int) : Int := Go.bits .and .i64 (Go.bits .or .i64 (shr .i64 x n) (shl .i64 x (wrap64 (32 - n)))) 4294967295
set_option maxHeartbeats 800000 in
theorem word_yes (x : Int) (w : World) (h0 : 0 ≤ x) (h1 : x ≤ 4294967295) : Calls Try.prog 73 #[.int .i64 x] w fun e w' => e = .returned (.bool true) ∧ w = w' := by
 go_enter Try.func73, Try.ntmps73
 go_wp2
 go_ret
 exact ⟨by simp [h1], rfl⟩
set_option maxHeartbeats 800000 in
theorem word_no (x : Int) (w : World) (h : ¬ (0 ≤ x ∧ x ≤ 4294967295)) : Calls Try.prog 73 #[.int .i64 x] w fun e w' => e = .returned (.bool false) ∧ w = w' := by
 by_cases h0 : 0 ≤ x
 ·
  have h1 : ¬ x ≤ 4294967295 := fun z => h ⟨h0, z⟩
  clear h
  go_enter Try.func73, Try.ntmps73
  go_wp2
  go_ret
  exact ⟨by simp [h1], rfl⟩
 ·
  clear h
  go_enter Try.func73, Try.ntmps73
  go_wp2
  go_ret
  exact ⟨rfl, rfl⟩
theorem turn_ev (x n : Int) (w : World) (h0 : 0 ≤ x) (h1 : x ≤ 4294967295) (n0 : 0 ≤ n) (n1 : n ≤ 31) : Calls Try.prog 75 #[.int .i64 x, .int .i64 n] w fun e w' => e = .returned (.int .i64 (sh_rot x n)) ∧ ∃ q, w' = w.drewN q := by
 refine (impl_TurnRight.calls x n (sh_rot x n) w ?_).mono (fun e w' h => ⟨h.1, h.2.out⟩)
 have e : wrap64 (32 - n) = 32 - n := by unfold wrap64; omega
 simp only [impl_TurnRight.f, impl_isWord.f, impl_within.f, sh_rot, e, if_pos h0, if_pos n0, decide_eq_true h1, decide_eq_true n1, Option.bind_some, if_true]
 rw [if_pos (by omega)]
end Go.Proofs.Ytjfhbmbiegccnaa.ShaBase
