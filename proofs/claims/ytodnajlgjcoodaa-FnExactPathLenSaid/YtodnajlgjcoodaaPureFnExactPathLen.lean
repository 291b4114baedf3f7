/- The program's function answers what the reference's answers, for all arguments: the printed law comes to true. Conditions: those of the printed statement alone. -/
import Derived.Test.YtodnajlgjcoodaaPFnExactPathLenx1
import Derived.Test.YtodnajlgjcoodaaLib
set_option linter.unusedVariables false
set_option linter.unusedSimpArgs false
set_option maxRecDepth 4000
namespace Go.Proofs.Ytodnajlgjcoodaa.Pure
open Go.RowKit Go.Proofs.Ytodnajlgjcoodaa.PFnExactPathLen Go.Proofs.YtodnajlgjcoodaaW.PrintWords Go.Proofs.YtodnajlgjcoodaaW.PrintLast Go.Proofs.YtodnajlgjcoodaaW.PrintMore Go.Proofs.Ytodnajlgjcoodaa.Lib

/-! ### impl_SplitAt -/
theorem split_ev (n : Int) (hn : n ≤ 9223372036854775807) : ∀ (d e : Nat) (x : Int), x = 2 ^ e → 1 ≤ x → x < n → n - x ≤ d → ∃ (r : Int) (e' : Nat), Ev (fun k => impl_SplitAt.l0 k n x) r ∧ r = 2 ^ e' ∧ 1 ≤ r ∧ r < n ∧ n ≤ 2 * r := by
  intro d
  induction d with
  | zero =>
    intro e x he h1 h2 hd
    omega
  | succ d ih =>
    intro e x he h1 h2 hd
    by_cases h : x < n - x
    · obtain ⟨r, e', hr, hp⟩ := ih (e + 1) (x * 2) (by rw [he, Int.pow_succ]) (by omega) (by omega) (by omega)
      refine ⟨r, e', Ev.step (fun _ => rfl) (ev_pos ?_ ?_), hp⟩
      · rw [wrap_in (by omega) (by omega)]
        exact h
      · rw [wrap_in (by omega) (by omega)]
        exact hr
    · refine ⟨x, e, Ev.step (fun _ => rfl) (ev_neg ?_ (ev_some rfl)), he, h1, h2, by omega⟩
      rw [wrap_in (by omega) (by omega)]
      omega
theorem splitAt_ev (n : Int) (h2 : 2 ≤ n) (hn : n ≤ 9223372036854775807) : ∃ (r : Int) (e : Nat), Ev (fun k => impl_SplitAt.f k n) r ∧ r = 2 ^ e ∧ 1 ≤ r ∧ r < n ∧ n ≤ 2 * r := by
  obtain ⟨r, e, hr, hp⟩ := split_ev n hn (n - 1).toNat 0 1 (by simp) (by omega) (by omega) (by omega)
  exact ⟨r, e, ev_neg (by omega) hr, hp⟩
theorem splitAt_some (n : Int) (hn : n ≤ 9223372036854775807) : ∃ r, Ev (fun k => impl_SplitAt.f k n) r := by
  by_cases h : n < 2
  · exact ⟨0, ev_pos h (ev_some rfl)⟩
  · obtain ⟨r, e, hr, _⟩ := splitAt_ev n (by omega) hn
    exact ⟨r, hr⟩

/-! ### splitAt_same -/
theorem split_same (k : Nat) : ∀ (n x : Int), spec_SplitAt.l0 k n x = impl_SplitAt.l0 k n x := by
  induction k with
  | zero => intro n x; rfl
  | succ k ih => intro n x; simp only [spec_SplitAt.l0, impl_SplitAt.l0, ih, Int.mul_comm 2 x]
theorem splitAt_same (k : Nat) (n : Int) : spec_SplitAt.f k n = impl_SplitAt.f k n := by
  unfold spec_SplitAt.f impl_SplitAt.f
  rw [split_same]

/-! ### impl_PathLen -/
theorem pathLen_out (n i : Int) (hn : n ≤ 9223372036854775807) (hn0 : -9223372036854775808 ≤ n) (h : ¬ ((2 ≤ n ∧ n ≤ 1048576) ∧ 0 ≤ i ∧ i < n)) : Ev (fun k => spec_PathLen.f k i n) 0 ∧ Ev (fun k => impl_PathLen.f k i n) 0 := by
  have zs : Ev (fun k => spec_PathLen.j0 k i n true) 0 := Ev.step (f := fun _ => some 0) (fun _ => by simp only [spec_PathLen.j0, if_true]) (Ev.now _)
  have zi : Ev (fun k => impl_PathLen.j0 k i n true) 0 := Ev.step (f := fun _ => some 0) (fun _ => by simp only [impl_PathLen.j0, if_true]) (Ev.now _)
  have w1 : 1 ≤ n → wrap64 (n - 1) = n - 1 := fun h => wrap_in (by omega) (by omega)
  constructor
  · refine Ev.step (fun _ => rfl) ?_
    by_cases e1 : n = 1
    · subst e1
      have e : ∃ b, spec_l08In.f i 1 = some b := by
        simp only [spec_l08In.f, spec_l01In.f]
        by_cases h0 : i ≥ 0 <;> simp [h0]
      obtain ⟨b, hb⟩ := e
      refine ev_bind0 hb ?_
      cases b
      · exact ev_neg (by decide) zs
      · exact ev_pos rfl zs
    · have e : spec_l08In.f i n = some false := by
        simp only [spec_l08In.f, spec_l01In.f]
        by_cases h1 : n ≥ 1
        · by_cases h3 : n ≤ 1048576
          · by_cases h4 : i ≥ 0
            · simp [h1, h3, h4, w1 h1]; omega
            · simp [h1, h3, h4]
          · simp [h1, h3]
        · simp [h1]
      exact ev_bind0 e (ev_neg (by decide) zs)
  · refine Ev.step (fun _ => rfl) ?_
    by_cases h2 : n < 2
    · exact ev_pos h2 zi
    by_cases h3 : n > 1048576
    · exact ev_neg h2 (ev_pos h3 zi)
    have e : impl_within.f i 0 (wrap64 (n - 1)) = some false := by
      simp only [impl_within.f, w1 (by omega)]
      by_cases h4 : 0 ≤ i
      · simp [h4]; omega
      · simp [h4]
    exact ev_neg h2 (ev_neg h3 (ev_bind0 e zi))
theorem pathLen_in : ∀ (d : Nat), d ≤ 1048576 → ∀ (n i : Int), n ≤ d → 0 ≤ i → i < n → ∃ r, 0 ≤ r ∧ r ≤ d ∧ Ev (fun k => spec_PathLen.f k i n) r ∧ Ev (fun k => impl_PathLen.f k i n) r := by
  intro d
  induction d with
  | zero => intro hd n i h h0 h1; omega
  | succ d ih =>
    intro hd n i h h0 h1
    by_cases h2 : n < 2
    · obtain ⟨a, b⟩ := pathLen_out n i (by omega) (by omega) (by omega)
      exact ⟨0, by omega, by omega, a, b⟩
    obtain ⟨s, e, hs, _, s1, s2, s3⟩ := splitAt_ev n (by omega) (by omega)
    have hs' : Ev (fun k => spec_SplitAt.f k n) s := Ev.congr (fun k => splitAt_same k n) hs
    have w1 : wrap64 (n - 1) = n - 1 := wrap_in (by omega) (by omega)
    have e1 : spec_l08In.f i n = some true := by
      simp only [spec_l08In.f, spec_l01In.f, w1]
      rw [if_pos (show n ≥ 1 by omega)]
      rw [show decide (n ≤ 1048576) = true by simp; omega]
      simp only [Option.bind_some, if_true]
      rw [if_pos h0, show decide (i ≤ n - 1) = true by simp; omega]
      rfl
    have e2 : (n == 1) = false := by simp; omega
    have e3 : impl_within.f i 0 (wrap64 (n - 1)) = some true := by
      rw [w1]
      simp [impl_within.f, h0]
      omega
    have goS : ∀ r, (Ev (fun k => if i < s then ((spec_PathLen.f k i s).bind fun t105 => (some (wrap64 (1 + t105)))) else ((spec_PathLen.f k (wrap64 (i - s)) (wrap64 (n - s))).bind fun t106 => (some (wrap64 (1 + t106))))) r) → Ev (fun k => spec_PathLen.f k i n) r := by
      intro r h
      refine Ev.step (fun _ => rfl) (ev_bind0 e1 (ev_pos rfl ?_))
      rw [e2]
      exact Ev.step (f := fun k => (spec_SplitAt.f k n).bind fun t104 => (if i < t104 then ((spec_PathLen.f k i t104).bind fun t105 => (some (wrap64 (1 + t105)))) else ((spec_PathLen.f k (wrap64 (i - t104)) (wrap64 (n - t104))).bind fun t106 => (some (wrap64 (1 + t106)))))) (fun _ => by simp only [spec_PathLen.j0, Bool.false_eq_true, if_false]) (Ev.bind hs' h)
    have goI : ∀ r, (Ev (fun k => if i < s then ((impl_PathLen.f k i s).bind fun t105 => (some (wrap64 (1 + t105)))) else ((impl_PathLen.f k (wrap64 (i - s)) (wrap64 (n - s))).bind fun t106 => (some (wrap64 (1 + t106))))) r) → Ev (fun k => impl_PathLen.f k i n) r := by
      intro r h
      refine Ev.step (fun _ => rfl) (ev_neg (by omega) (ev_neg (by omega) (ev_bind0 e3 ?_)))
      exact Ev.step (f := fun k => (impl_SplitAt.f k n).bind fun t104 => (if i < t104 then ((impl_PathLen.f k i t104).bind fun t105 => (some (wrap64 (1 + t105)))) else ((impl_PathLen.f k (wrap64 (i - t104)) (wrap64 (n - t104))).bind fun t106 => (some (wrap64 (1 + t106)))))) (fun _ => by simp only [impl_PathLen.j0, Bool.not_true, Bool.false_eq_true, if_false]) (Ev.bind hs h)
    by_cases hlt : i < s
    · obtain ⟨r, r0, r1, ra, rb⟩ := ih (by omega) s i (by omega) h0 hlt
      have hr : wrap64 (1 + r) = 1 + r := wrap_in (by omega) (by omega)
      exact ⟨1 + r, by omega, by omega, goS _ (ev_pos hlt (Ev.bind ra (ev_some hr))), goI _ (ev_pos hlt (Ev.bind rb (ev_some hr)))⟩
    · obtain ⟨r, r0, r1, ra, rb⟩ := ih (by omega) (n - s) (i - s) (by omega) (by omega) (by omega)
      have hr : wrap64 (1 + r) = 1 + r := wrap_in (by omega) (by omega)
      refine ⟨1 + r, by omega, by omega, goS _ (ev_neg hlt ?_), goI _ (ev_neg hlt ?_)⟩
      · rw [wrap_in (n := i - s) (by omega) (by omega), wrap_in (n := n - s) (by omega) (by omega)]
        exact Ev.bind ra (ev_some hr)
      · rw [wrap_in (n := i - s) (by omega) (by omega), wrap_in (n := n - s) (by omega) (by omega)]
        exact Ev.bind rb (ev_some hr)
theorem pathLen_both (n i : Int) (hn : n ≤ 9223372036854775807) (hn0 : -9223372036854775808 ≤ n) : ∃ r, Ev (fun k => spec_PathLen.f k i n) r ∧ Ev (fun k => impl_PathLen.f k i n) r := by
  by_cases h : (2 ≤ n ∧ n ≤ 1048576) ∧ 0 ≤ i ∧ i < n
  · obtain ⟨r, _, _, a, b⟩ := pathLen_in n.toNat (by omega) n i (by omega) h.2.1 h.2.2
    exact ⟨r, a, b⟩
  · obtain ⟨a, b⟩ := pathLen_out n i hn hn0 h
    exact ⟨0, a, b⟩

theorem FnExactPathLen : laws_FnExactPathLen.Pure := by
  intro i n _ hn
  obtain ⟨r, ⟨K3, e3⟩, K4, e4⟩ := pathLen_both n i (wf_i64.1 hn).2 (wf_i64.1 hn).1
  refine ⟨K3 + K4, ?_⟩
  simp (disch := omega) only [laws_FnExactPathLen.f, e3, e4, Option.bind_some, if_true]

end Go.Proofs.Ytodnajlgjcoodaa.Pure
