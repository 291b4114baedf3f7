/- The program's function answers what the reference's answers, for all arguments: the printed law comes to true. Conditions: those of the printed statement alone. -/
import Derived.Test.YthddmjogfolafaaQFnExactTreeSamex2
import Derived.Test.YthddmjogfolafaaLib
set_option linter.unusedVariables false
set_option linter.unusedSimpArgs false
set_option maxRecDepth 4000
namespace Go.Proofs.Ythddmjogfolafaa.Pure
open Go.RowKit Go.Proofs.Ythddmjogfolafaa.QFnExactTreeSame Go.Proofs.YthddmjogfolafaaW.PrintWords Go.Proofs.YthddmjogfolafaaW.PrintLast Go.Proofs.YthddmjogfolafaaW.PrintMore Go.Proofs.Ythddmjogfolafaa.Lib

/-! ### laws_szByteSS -/
/-- What the size gate of a slice of slices lets through. -/
theorem szByteSS_l0 (l : List (List Int)) (hl : l.length ≤ 9223372036854775807) (hr : ∀ r ∈ l, r.length ≤ 9223372036854775807) : ∀ (d i : Nat) (a : Int), l.length - i = d → i ≤ l.length → 0 ≤ a → a ≤ 1048576 → ∃ r, Ev (fun k => laws_szByteSS.l0 k l a (i : Int)) r ∧ r ≤ 1048576 ∧ (0 ≤ r → ∀ x ∈ l.drop i, x.length ≤ 1048576) := by
  intro d
  induction d with
  | zero =>
    intro i a hd hi a0 a1
    refine ⟨a, Ev.step (fun _ => rfl) (ev_neg (by omega) (Ev.now _)), a1, fun _ x hx => ?_⟩
    rw [List.drop_of_length_le (by omega)] at hx
    cases hx
  | succ d ih =>
    intro i a hd hi a0 a1
    have hi' : i < l.length := by omega
    have hlen := hr l[i] (List.getElem_mem hi')
    have e : rd_L1 l (i : Int) = l[i] := by
      unfold rd_L1
      rw [Int.toNat_natCast, List.getD_eq_getElem?_getD, List.getElem?_eq_getElem hi']
      rfl
    by_cases h : (l[i].length : Int) ≤ a
    · obtain ⟨r, e2, r1, q⟩ := ih (i + 1) (a - l[i].length) (by omega) (by omega) (by omega) (by omega)
      refine ⟨r, Ev.step (fun _ => rfl) (ev_pos (by omega) (ev_pos (by omega) ?_)), r1, fun h0 x hx => ?_⟩
      · rw [e]
        refine ev_bind0 (x := a - l[i].length) ?_ (ev_neg (by omega) ?_)
        · unfold laws_szByteS.f
          rw [wrap_in (n := a - l[i].length) (by omega) (by omega), if_neg (by omega)]
        · rw [wrap_in (n := (i : Int) + 1) (by omega) (by omega)]
          exact e2
      · rw [List.drop_eq_getElem_cons hi'] at hx
        rcases List.mem_cons.1 hx with rfl | hx
        · omega
        · exact q h0 x hx
    · refine ⟨-1, Ev.step (fun _ => rfl) (ev_pos (by omega) (ev_pos (by omega) ?_)), by omega, fun h0 => absurd h0 (by omega)⟩
      rw [e]
      refine ev_bind0 (x := -1) ?_ (ev_pos (by omega) (Ev.now _))
      unfold laws_szByteS.f
      rw [wrap_in (n := a - l[i].length) (by omega) (by omega), if_pos (by omega)]
theorem szByteSS_ev (l : List (List Int)) (hl : l.length ≤ 9223372036854775807) (hr : ∀ r ∈ l, r.length ≤ 9223372036854775807) (a : Int) (a0 : 0 ≤ a) (a1 : a ≤ 1048576) : ∃ r, Ev (fun k => laws_szByteSS.f k l a) r ∧ r ≤ 1048576 ∧ (0 ≤ r → l.length ≤ 1048576 ∧ ∀ x ∈ l, x.length ≤ 1048576) := by
  by_cases h : (l.length : Int) ≤ a
  · obtain ⟨r, e, r1, q⟩ := szByteSS_l0 l hl hr _ 0 (a - l.length) rfl (by omega) (by omega) (by omega)
    refine ⟨r, ?_, r1, fun h0 => ⟨by omega, by have := q h0; rw [List.drop_zero] at this; exact this⟩⟩
    unfold laws_szByteSS.f
    rw [wrap_in (n := a - l.length) (by omega) (by omega)]
    exact ev_neg (by omega) e
  · refine ⟨-1, ?_, by omega, fun h0 => absurd h0 (by omega)⟩
    unfold laws_szByteSS.f
    rw [wrap_in (n := a - l.length) (by omega) (by omega)]
    exact ev_pos (by omega) (Ev.now _)

/-! ### laws_toByteS -/
theorem toByteS_l0 (l : List Int) (hl : l.length ≤ 1048576) : ∀ (d i : Nat) (ys : List Int), l.length - i = d → i ≤ l.length → ys.length = l.length → ys.take i = l.take i → Ev (fun k => laws_toByteS.l0 k l ys (i : Int)) l := by
  intro d
  induction d with
  | zero =>
    intro i ys hd hi hy ht
    refine Ev.step (fun _ => rfl) (ev_neg (by omega) (ev_some ?_))
    rw [List.take_of_length_le (by omega), List.take_of_length_le (by omega)] at ht
    exact ht
  | succ d ih =>
    intro i ys hd hi hy ht
    refine Ev.step (fun _ => rfl) (ev_pos (by omega) (ev_pos (by omega) (ev_pos (by omega) ?_)))
    rw [wrap_succ (by omega), rd_at (show i < l.length by omega), Int.toNat_natCast]
    exact ih (i + 1) _ (by omega) (by omega) (by simpa using hy) (set_take_succ ys l i (by omega) (by omega) ht)
theorem toByteS_ev (l : List Int) (hl : l.length ≤ 1048576) : Ev (fun k => laws_toByteS.f k l) l := by
  unfold laws_toByteS.f
  refine ev_pos (by omega) (ev_pos (by omega) ?_)
  rw [Int.toNat_natCast]
  exact toByteS_l0 l hl _ 0 _ rfl (by omega) (by simp) (by simp)

/-! ### laws_toByteSS -/
theorem rd_L1_at (l : List (List Int)) (i : Nat) (h : i < l.length) : rd_L1 l (i : Int) = l[i] := by
  unfold rd_L1
  rw [Int.toNat_natCast, List.getD_eq_getElem?_getD, List.getElem?_eq_getElem h]
  rfl
theorem toByteSS_l0 (l : List (List Int)) (hl : l.length ≤ 1048576) (hr : ∀ r ∈ l, r.length ≤ 1048576) : ∀ (d i : Nat) (ys : List (List Int)), l.length - i = d → i ≤ l.length → ys.length = l.length → ys.take i = l.take i → Ev (fun k => laws_toByteSS.l0 k l ys (i : Int)) l := by
  intro d
  induction d with
  | zero =>
    intro i ys hd hi hy ht
    refine Ev.step (fun _ => rfl) (ev_neg (by omega) (ev_some ?_))
    rw [List.take_of_length_le (by omega), List.take_of_length_le (by omega)] at ht
    exact ht
  | succ d ih =>
    intro i ys hd hi hy ht
    have hi' : i < l.length := by omega
    refine Ev.step (fun _ => rfl) (ev_pos (by omega) (ev_pos (by omega) ?_))
    rw [rd_L1_at l i hi']
    refine Ev.bind (toByteS_ev l[i] (hr _ (List.getElem_mem hi'))) (ev_pos (by omega) ?_)
    rw [wrap_succ (by omega), Int.toNat_natCast]
    exact ih (i + 1) _ (by omega) (by omega) (by simpa using hy) (set_take_succ ys l i (by omega) (by omega) ht)
theorem toByteSS_ev (l : List (List Int)) (hl : l.length ≤ 1048576) (hr : ∀ r ∈ l, r.length ≤ 1048576) : Ev (fun k => laws_toByteSS.f k l) l := by
  unfold laws_toByteSS.f
  refine ev_pos (by omega) (ev_pos (by omega) ?_)
  rw [Int.toNat_natCast]
  exact toByteSS_l0 l hl hr _ 0 _ rfl (by omega) (by simp) (by simp)

/-! ### laws_eqByteS -/
theorem eqByteS_l0 (a b : List Int) (hl : a.length ≤ 9000000000000000000) (hab : a.length = b.length) : ∀ (d i : Nat), a.length - i = d → i ≤ a.length → a.take i = b.take i → Ev (fun k => laws_eqByteS.l0 k a b (i : Int)) (decide (a = b)) := by
  intro d
  induction d with
  | zero =>
    intro i hd hi ht
    refine Ev.step (fun _ => rfl) (ev_neg (by omega) (ev_some ?_))
    rw [List.take_of_length_le (by omega), List.take_of_length_le (by omega)] at ht
    simp [ht]
  | succ d ih =>
    intro i hd hi ht
    refine Ev.step (fun _ => rfl) (ev_pos (by omega) (ev_pos (by omega) (ev_pos (by omega) ?_)))
    have ha : i < a.length := by omega
    have hb : i < b.length := by omega
    rw [rd_at ha, rd_at hb]
    by_cases e : a[i] = b[i]
    · refine ev_pos e ?_
      rw [wrap_succ (by omega)]
      exact ih (i + 1) (by omega) (by omega) (by rw [List.take_succ_eq_append_getElem ha, List.take_succ_eq_append_getElem hb, ht, e])
    · refine ev_neg e (ev_some ?_)
      have : a ≠ b := fun h => e (by subst h; rfl)
      simp [this]
theorem eqByteS_ev (a b : List Int) (hl : a.length ≤ 9000000000000000000) : Ev (fun k => laws_eqByteS.f k a b) (decide (a = b)) := by
  unfold laws_eqByteS.f
  by_cases h : a.length = b.length
  · refine ev_pos (by omega) ?_
    exact eqByteS_l0 a b hl h _ 0 rfl (by omega) (by simp)
  · refine ev_neg (by omega) (ev_some ?_)
    have : a ≠ b := fun e => h (by rw [e])
    simp [this]
theorem eqByteS_same (a : List Int) (hl : a.length ≤ 9000000000000000000) : Ev (fun k => laws_eqByteS.f k a a) true := ev_eq (by simp) (eqByteS_ev a a hl)

/-! ### laws_eqByteSS -/
theorem eqByteSS_l0 (a : List (List Int)) (hl : a.length ≤ 1048576) (hr : ∀ r ∈ a, r.length ≤ 1048576) : ∀ (d i : Nat), a.length - i = d → i ≤ a.length → Ev (fun k => laws_eqByteSS.l0 k a a (i : Int)) true := by
  intro d
  induction d with
  | zero =>
    intro i hd hi
    exact Ev.step (fun _ => rfl) (ev_neg (by omega) (Ev.now _))
  | succ d ih =>
    intro i hd hi
    have ha : i < a.length := by omega
    have hx := hr a[i] (List.getElem_mem ha)
    refine Ev.step (fun _ => rfl) (ev_pos (by omega) (ev_pos (by omega) (ev_pos (by omega) ?_)))
    rw [rd_L1_at a i ha, wrap_succ (by omega)]
    exact Ev.bind (eqByteS_same a[i] (by omega)) (ev_pos rfl (ih (i + 1) (by omega) (by omega)))
theorem eqByteSS_same (a : List (List Int)) (hl : a.length ≤ 1048576) (hr : ∀ r ∈ a, r.length ≤ 1048576) : Ev (fun k => laws_eqByteSS.f k a a) true := by
  unfold laws_eqByteSS.f
  exact ev_pos rfl (eqByteSS_l0 a hl hr _ 0 rfl (by omega))

attribute [local congr] bind_lazy ite_lazy
theorem treeSame_l0 (a b : List (List Int)) (hl : a.length ≤ 1048576) (hab : a.length = b.length) : ∀ (d i : Nat), a.length - i = d → i ≤ a.length → ∃ r, Ev (fun k => spec_TreeSame.l0 k a b (a.length : Int) (i : Int)) r ∧ Ev (fun k => impl_TreeSame.l0 k a b (a.length : Int) (i : Int)) r := by
  intro d
  induction d with
  | zero =>
    intro i hd hi
    exact ⟨true, Ev.step (fun _ => rfl) (ev_neg (by omega) (Ev.now _)), Ev.step (fun _ => rfl) (ev_neg (by omega) (Ev.now _))⟩
  | succ d ih =>
    intro i hd hi
    obtain ⟨r, e1, e2⟩ := ih (i + 1) (by omega) (by omega)
    have hs : ∃ s, spec_SameBytes.f (rd_L1 a (i : Int)) (rd_L1 b (i : Int)) = some s ∧ impl_SameBytes.f (rd_L1 a (i : Int)) (rd_L1 b (i : Int)) = some s := ⟨_, rfl, rfl⟩
    obtain ⟨s, s1, s2⟩ := hs
    cases s with
    | true =>
      refine ⟨r, Ev.step (fun _ => rfl) (ev_pos (by omega) (ev_pos (by omega) (ev_pos (by omega) (ev_pos (by omega) (ev_bind0 s1 (ev_pos rfl ?_)))))), Ev.step (fun _ => rfl) (ev_pos (by omega) (ev_pos (by omega) (ev_pos (by omega) (ev_pos (by omega) (ev_bind0 s2 (ev_pos rfl ?_))))))⟩
      · rw [wrap_succ (by omega)]
        exact e1
      · rw [wrap_succ (by omega)]
        exact e2
    | false => exact ⟨false, Ev.step (fun _ => rfl) (ev_pos (by omega) (ev_pos (by omega) (ev_pos (by omega) (ev_pos (by omega) (ev_bind0 s1 (ev_neg Bool.false_ne_true (Ev.now _))))))), Ev.step (fun _ => rfl) (ev_pos (by omega) (ev_pos (by omega) (ev_pos (by omega) (ev_pos (by omega) (ev_bind0 s2 (ev_neg Bool.false_ne_true (Ev.now _)))))))⟩
theorem treeSame_both (a b : List (List Int)) (hl : a.length ≤ 1048576) : ∃ r, Ev (fun k => spec_TreeSame.f k a b) r ∧ Ev (fun k => impl_TreeSame.f k a b) r := by
  by_cases h : a.length = b.length
  · obtain ⟨r, e1, e2⟩ := treeSame_l0 a b hl h _ 0 rfl (by omega)
    exact ⟨r, ev_pos (by omega) e1, ev_pos (by omega) e2⟩
  · exact ⟨false, ev_neg (by omega) (Ev.now _), ev_neg (by omega) (Ev.now _)⟩
theorem FnExactTreeSame (a b : List (List Int)) (ha : a.length ≤ 9223372036854775807) (hb : b.length ≤ 9223372036854775807) (ra : ∀ r ∈ a, r.length ≤ 9223372036854775807) (rb : ∀ r ∈ b, r.length ≤ 9223372036854775807) : ∃ k, laws_FnExactTreeSame.f k a b = some true := by
  have main : Ev (fun k => laws_FnExactTreeSame.f k a b) true := by
    unfold laws_FnExactTreeSame.f
    obtain ⟨r, e1, r1, q1⟩ := szByteSS_ev a ha ra 1048576 (by omega) (by omega)
    refine Ev.bind e1 ?_
    by_cases h1 : r < 0
    · exact ev_pos h1 (Ev.now _)
    refine ev_neg h1 ?_
    obtain ⟨la, qa⟩ := q1 (by omega)
    obtain ⟨s, e2, s1, q2⟩ := szByteSS_ev b hb rb r (by omega) (by omega)
    refine Ev.bind e2 ?_
    by_cases h2 : s < 0
    · exact ev_pos h2 (Ev.now _)
    refine ev_neg h2 ?_
    obtain ⟨lb, qb⟩ := q2 (by omega)
    obtain ⟨t, t1, t2⟩ := treeSame_both a b la
    have ea := toByteSS_ev a la qa
    have eb := toByteSS_ev b lb qb
    refine Ev.bind ea (Ev.bind eb (Ev.bind t1 (Ev.bind ea (Ev.bind eb (Ev.bind t2 (ev_neg (by rw [bne_self_eq_false]; exact Bool.false_ne_true) (Ev.bind ea (Ev.bind (eqByteSS_same a la qa) (ev_pos rfl (Ev.bind eb (Ev.bind (eqByteSS_same b lb qb) (ev_pos rfl (Ev.now _)))))))))))))
  obtain ⟨K, h⟩ := main
  exact ⟨K, h K (Nat.le_refl _)⟩

end Go.Proofs.Ythddmjogfolafaa.Pure
