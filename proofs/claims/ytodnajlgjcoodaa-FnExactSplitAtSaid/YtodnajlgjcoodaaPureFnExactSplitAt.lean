/- The program's function answers what the reference's answers, for all arguments: the printed law comes to true. Conditions: those of the printed statement alone. -/
import Derived.Test.YtodnajlgjcoodaaPFnExactSplitAtx1
import Derived.Test.YtodnajlgjcoodaaLib
set_option linter.unusedVariables false
set_option linter.unusedSimpArgs false
set_option maxRecDepth 4000
namespace Go.Proofs.Ytodnajlgjcoodaa.Pure
open Go.RowKit Go.Proofs.Ytodnajlgjcoodaa.PFnExactSplitAt Go.Proofs.YtodnajlgjcoodaaW.PrintWords Go.Proofs.YtodnajlgjcoodaaW.PrintLast Go.Proofs.YtodnajlgjcoodaaW.PrintMore Go.Proofs.Ytodnajlgjcoodaa.Lib

/-! ### impl_SplitAt -/
theorem split_same (k : Nat) : ∀ (n x : Int), spec_SplitAt.l0 k n x = impl_SplitAt.l0 k n x := by
  induction k with
  | zero => intro n x; rfl
  | succ k ih => intro n x; simp only [spec_SplitAt.l0, impl_SplitAt.l0, ih, Int.mul_comm 2 x]
theorem split_ev (n : Int) (hn : n ≤ 9223372036854775807) : ∀ (d : Nat) (x : Int), 1 ≤ x → x ≤ n → n - x ≤ d → ∃ r, Ev (fun k => impl_SplitAt.l0 k n x) r := by
  intro d
  induction d with
  | zero =>
    intro x h1 h2 hd
    refine ⟨x, Ev.step (fun _ => rfl) (ev_neg ?_ (ev_some rfl))⟩
    rw [wrap_in (by omega) (by omega)]
    omega
  | succ d ih =>
    intro x h1 h2 hd
    by_cases h : x < n - x
    · obtain ⟨r, hr⟩ := ih (x * 2) (by omega) (by omega) (by omega)
      refine ⟨r, Ev.step (fun _ => rfl) (ev_pos ?_ ?_)⟩
      · rw [wrap_in (by omega) (by omega)]
        exact h
      · rw [wrap_in (by omega) (by omega)]
        exact hr
    · refine ⟨x, Ev.step (fun _ => rfl) (ev_neg ?_ (ev_some rfl))⟩
      rw [wrap_in (by omega) (by omega)]
      omega
theorem splitAt_same (k : Nat) (n : Int) : spec_SplitAt.f k n = impl_SplitAt.f k n := by
  unfold spec_SplitAt.f impl_SplitAt.f
  rw [split_same]
theorem splitAt_some (n : Int) (hn : n ≤ 9223372036854775807) : ∃ r, Ev (fun k => impl_SplitAt.f k n) r := by
  by_cases h : n < 2
  · exact ⟨0, ev_pos h (ev_some rfl)⟩
  · obtain ⟨r, hr⟩ := split_ev n hn (n - 1).toNat 1 (by omega) (by omega) (by omega)
    exact ⟨r, ev_neg h hr⟩

theorem FnExactSplitAt : laws_FnExactSplitAt.Pure := by
  intro n hn
  have hb := wf_i64.1 hn
  obtain ⟨r, K, hr⟩ := splitAt_some n (by omega)
  refine ⟨K, ?_⟩
  simp only [laws_FnExactSplitAt.f, splitAt_same, hr K (Nat.le_refl _), Option.bind_some, if_true]

end Go.Proofs.Ytodnajlgjcoodaa.Pure
