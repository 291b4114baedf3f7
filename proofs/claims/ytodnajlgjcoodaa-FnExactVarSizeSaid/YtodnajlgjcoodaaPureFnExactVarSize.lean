/- The program's function answers what the reference's answers, for all arguments: the printed law comes to true. Conditions: those of the printed statement alone. -/
import Derived.Test.YtodnajlgjcoodaaPFnExactVarSizex1
import Derived.Test.YtodnajlgjcoodaaLib
set_option linter.unusedVariables false
set_option linter.unusedSimpArgs false
set_option maxRecDepth 4000
namespace Go.Proofs.Ytodnajlgjcoodaa.Pure
open Go.RowKit Go.Proofs.Ytodnajlgjcoodaa.PFnExactVarSize Go.Proofs.YtodnajlgjcoodaaW.PrintWords Go.Proofs.YtodnajlgjcoodaaW.PrintLast Go.Proofs.YtodnajlgjcoodaaW.PrintMore Go.Proofs.Ytodnajlgjcoodaa.Lib

/-! ### impl_PutVar -/
theorem spec_putVar_l0 : ∀ (d : Nat) (n : Nat) (l : List Int), n ≤ d → n ≤ 1152921504606846975 → l.length + n.log2 < 140737488355000 → Ev (fun k => spec_PutVar.l0 k (n : Int) l) (l ++ varBytes n, true) := by
  intro d
  induction d using Nat.strongRecOn with
  | ind d ih =>
    intro n l hd hn hl
    by_cases h : n < 128
    · refine Ev.step (fun _ => rfl) (ev_neg (by omega) (ev_pos (by omega) (ev_some ?_)))
      rw [varBytes_small h, show (n : Int) % 256 = n by omega]
    · have hlog : (n / 128).log2 + 7 = n.log2 := log2_128 (by omega)
      refine Ev.step (fun _ => rfl) (ev_pos (by omega) (ev_pos (by omega) ?_))
      rw [varBytes_big (by omega), Int.tdiv_eq_ediv_of_nonneg (by omega), Int.tmod_eq_emod_of_nonneg (by omega), wrap_in (n := (n : Int) / 128) (by omega) (by omega), wrap_in (by omega) (by omega)]
      have := ih (n / 128) (by omega) (n / 128) (l ++ [(n : Int) % 128 + 128]) (Nat.le_refl _) (by omega) (by simp; omega)
      rw [show (128 + (n : Int) % 128) % 256 = (n : Int) % 128 + 128 by omega]
      simpa using this
theorem impl_putVar_l0 : ∀ (k : Nat) (n : Int) (l : List Int), impl_PutVar.l0 k n l = spec_PutVar.l0 k n l := by
  intro k
  induction k with
  | zero => intro n l; rfl
  | succ k ih =>
    intro n l
    have e : (n ≥ 128) = (n > 127) := propext ⟨fun h => by omega, fun h => by omega⟩
    simp only [impl_PutVar.l0, spec_PutVar.l0, ih, Int.add_comm 128, e]
def putVar (l : List Int) (n : Int) : List Int × Bool := if 0 ≤ n ∧ n ≤ 1152921504606846975 then (l ++ varBytes n.toNat, true) else ([], false)
theorem spec_putVar (l : List Int) (n : Int) (hl : l.length ≤ 4194304) : Ev (fun k => spec_PutVar.f k l n) (putVar l n) := by
  unfold spec_PutVar.f putVar spec_l01Num.f spec_l01In.f spec_l01Copy.f
  by_cases h0 : 0 ≤ n
  · by_cases h1 : n ≤ 1152921504606846975
    · obtain ⟨m, rfl⟩ := Int.eq_ofNat_of_zero_le h0
      have hlog : m.log2 < 64 := by
        by_cases hm : m = 0
        · subst hm; decide
        · exact (Nat.log2_lt hm).2 (by omega)
      have := spec_putVar_l0 m m l (Nat.le_refl _) (by omega) (by omega)
      have hc : ((([] : List Int)).length + l.length < 140737488355328) := by simp; omega
      simpa [h0, h1, show l.length < 140737488355328 by omega] using this
    · simp [h0, h1]; exact Ev.now _
  · simp [h0]; exact Ev.now _
theorem impl_putVar (l : List Int) (n : Int) (hl : l.length ≤ 4194304) : Ev (fun k => impl_PutVar.f k l n) (putVar l n) := by
  refine Ev.congr (fun k => ?_) (spec_putVar l n hl)
  unfold impl_PutVar.f spec_PutVar.f spec_l01Num.f spec_l01In.f impl_isNum.f impl_within.f spec_l01Copy.f impl_copyBytes.f
  simp only [impl_putVar_l0, ge_iff_le]
theorem putVar_length (l : List Int) (n : Int) : (putVar l n).1.length ≤ l.length + 64 := by
  unfold putVar
  split
  · rename_i h
    have := varBytes_length n.toNat
    have hlog : n.toNat.log2 < 64 := by
      by_cases hm : n.toNat = 0
      · rw [hm]; decide
      · exact (Nat.log2_lt hm).2 (by omega)
    simp
    omega
  · simp
theorem putVar_bytes (l : List Int) (n : Int) (hl : Bytes l) : Bytes (putVar l n).1 := by
  unfold putVar
  split
  · exact hl.app (varBytes_bytes _)
  · exact Bytes.nil

theorem FnExactVarSize : laws_FnExactVarSize.Pure := by
  intro n hn
  obtain ⟨K1, e1⟩ := spec_putVar [] n (by simp)
  obtain ⟨K2, e2⟩ := impl_putVar [] n (by simp)
  refine ⟨K1 + K2, ?_⟩
  simp (disch := omega) only [laws_FnExactVarSize.f, spec_VarSize.f, impl_VarSize.f, e1, e2, Option.bind_some, if_true]

end Go.Proofs.Ytodnajlgjcoodaa.Pure
