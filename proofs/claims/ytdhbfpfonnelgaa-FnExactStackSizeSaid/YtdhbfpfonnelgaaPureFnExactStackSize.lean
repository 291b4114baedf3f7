/- The program's function answers what the reference's answers, for all arguments: the printed law comes to true. Conditions: those of the printed statement alone. -/
import Derived.Test.YtdhbfpfonnelgaaQFnExactStackSizex4
import Derived.Test.YtdhbfpfonnelgaaLib
set_option linter.unusedVariables false
set_option linter.unusedSimpArgs false
set_option maxRecDepth 4000
namespace Go.Proofs.Ytdhbfpfonnelgaa.Pure
open Go.RowKit Go.Proofs.Ytdhbfpfonnelgaa.QFnExactStackSize Go.Proofs.YtdhbfpfonnelgaaW.PrintWords Go.Proofs.YtdhbfpfonnelgaaW.PrintLast Go.Proofs.YtdhbfpfonnelgaaW.PrintMore Go.Proofs.Ytdhbfpfonnelgaa.Lib

/-! ### laws_szByteSS -/
/-- What the size gate of a slice of slices lets through. -/
theorem szByteSS_l0 (l : List (List Int)) (hl : l.length ≤ 9223372036854775807) (hr : ∀ r ∈ l, r.length ≤ 9223372036854775807) : ∀ (d i : Nat) (a : Int), l.length - i = d → i ≤ l.length → 0 ≤ a → a ≤ 1048576 → ∃ r, Ev (fun k => laws_szByteSS.l0 k l a (i : Int)) r ∧ r ≤ 1048576 ∧ (0 ≤ r → ∀ x ∈ l.drop i, x.length ≤ 1048576) := by
  intro d
  induction d with
  | zero =>
    intro i a hd hi a0 a1
    refine ⟨a, Ev.step (fun _ => rfl) (ev_neg (by omega) (Ev.now _)), a1, fun _ x hx => ?_⟩
    rw [List.drop_of_length_le (by omega)] at hx
    cases hx
  | succ d ih =>
    intro i a hd hi a0 a1
    have hi' : i < l.length := by omega
    have hlen := hr l[i] (List.getElem_mem hi')
    have e : rd_L2 l (i : Int) = l[i] := by
      unfold rd_L2
      rw [Int.toNat_natCast, List.getD_eq_getElem?_getD, List.getElem?_eq_getElem hi']
      rfl
    by_cases h : (l[i].length : Int) ≤ a
    · obtain ⟨r, e2, r1, q⟩ := ih (i + 1) (a - l[i].length) (by omega) (by omega) (by omega) (by omega)
      refine ⟨r, Ev.step (fun _ => rfl) (ev_pos (by omega) (ev_pos (by omega) ?_)), r1, fun h0 x hx => ?_⟩
      · rw [e]
        refine ev_bind0 (x := a - l[i].length) ?_ (ev_neg (by omega) ?_)
        · unfold laws_szByteS.f
          rw [wrap_in (n := a - l[i].length) (by omega) (by omega), if_neg (by omega)]
        · rw [wrap_in (n := (i : Int) + 1) (by omega) (by omega)]
          exact e2
      · rw [List.drop_eq_getElem_cons hi'] at hx
        rcases List.mem_cons.1 hx with rfl | hx
        · omega
        · exact q h0 x hx
    · refine ⟨-1, Ev.step (fun _ => rfl) (ev_pos (by omega) (ev_pos (by omega) ?_)), by omega, fun h0 => absurd h0 (by omega)⟩
      rw [e]
      refine ev_bind0 (x := -1) ?_ (ev_pos (by omega) (Ev.now _))
      unfold laws_szByteS.f
      rw [wrap_in (n := a - l[i].length) (by omega) (by omega), if_pos (by omega)]
theorem szByteSS_ev (l : List (List Int)) (hl : l.length ≤ 9223372036854775807) (hr : ∀ r ∈ l, r.length ≤ 9223372036854775807) (a : Int) (a0 : 0 ≤ a) (a1 : a ≤ 1048576) : ∃ r, Ev (fun k => laws_szByteSS.f k l a) r ∧ r ≤ 1048576 ∧ (0 ≤ r → l.length ≤ 1048576 ∧ ∀ x ∈ l, x.length ≤ 1048576) := by
  by_cases h : (l.length : Int) ≤ a
  · obtain ⟨r, e, r1, q⟩ := szByteSS_l0 l hl hr _ 0 (a - l.length) rfl (by omega) (by omega) (by omega)
    refine ⟨r, ?_, r1, fun h0 => ⟨by omega, by have := q h0; rw [List.drop_zero] at this; exact this⟩⟩
    unfold laws_szByteSS.f
    rw [wrap_in (n := a - l.length) (by omega) (by omega)]
    exact ev_neg (by omega) e
  · refine ⟨-1, ?_, by omega, fun h0 => absurd h0 (by omega)⟩
    unfold laws_szByteSS.f
    rw [wrap_in (n := a - l.length) (by omega) (by omega)]
    exact ev_pos (by omega) (Ev.now _)

/-! ### laws_toIntS -/
theorem toIntS_l0 (l : List Int) (hl : l.length ≤ 1048576) : ∀ (d i : Nat) (ys : List Int), l.length - i = d → i ≤ l.length → ys.length = l.length → ys.take i = l.take i → Ev (fun k => laws_toIntS.l0 k l ys (i : Int)) l := by
  intro d
  induction d with
  | zero =>
    intro i ys hd hi hy ht
    refine Ev.step (fun _ => rfl) (ev_neg (by omega) (ev_some ?_))
    rw [List.take_of_length_le (by omega), List.take_of_length_le (by omega)] at ht
    exact ht
  | succ d ih =>
    intro i ys hd hi hy ht
    refine Ev.step (fun _ => rfl) (ev_pos (by omega) (ev_pos (by omega) (ev_pos (by omega) ?_)))
    rw [wrap_succ (by omega), rd_at (show i < l.length by omega), Int.toNat_natCast]
    exact ih (i + 1) _ (by omega) (by omega) (by simpa using hy) (set_take_succ ys l i (by omega) (by omega) ht)
theorem toIntS_ev (l : List Int) (hl : l.length ≤ 1048576) : Ev (fun k => laws_toIntS.f k l) l := by
  unfold laws_toIntS.f
  refine ev_pos (by omega) (ev_pos (by omega) ?_)
  rw [Int.toNat_natCast]
  exact toIntS_l0 l hl _ 0 _ rfl (by omega) (by simp) (by simp)

/-! ### laws_toByteS -/
theorem toByteS_l0 (l : List Int) (hl : l.length ≤ 1048576) : ∀ (d i : Nat) (ys : List Int), l.length - i = d → i ≤ l.length → ys.length = l.length → ys.take i = l.take i → Ev (fun k => laws_toByteS.l0 k l ys (i : Int)) l := by
  intro d
  induction d with
  | zero =>
    intro i ys hd hi hy ht
    refine Ev.step (fun _ => rfl) (ev_neg (by omega) (ev_some ?_))
    rw [List.take_of_length_le (by omega), List.take_of_length_le (by omega)] at ht
    exact ht
  | succ d ih =>
    intro i ys hd hi hy ht
    refine Ev.step (fun _ => rfl) (ev_pos (by omega) (ev_pos (by omega) (ev_pos (by omega) ?_)))
    rw [wrap_succ (by omega), rd_at (show i < l.length by omega), Int.toNat_natCast]
    exact ih (i + 1) _ (by omega) (by omega) (by simpa using hy) (set_take_succ ys l i (by omega) (by omega) ht)
theorem toByteS_ev (l : List Int) (hl : l.length ≤ 1048576) : Ev (fun k => laws_toByteS.f k l) l := by
  unfold laws_toByteS.f
  refine ev_pos (by omega) (ev_pos (by omega) ?_)
  rw [Int.toNat_natCast]
  exact toByteS_l0 l hl _ 0 _ rfl (by omega) (by simp) (by simp)

/-! ### laws_toByteSS -/
theorem rd_L1_at (l : List (List Int)) (i : Nat) (h : i < l.length) : rd_L2 l (i : Int) = l[i] := by
  unfold rd_L2
  rw [Int.toNat_natCast, List.getD_eq_getElem?_getD, List.getElem?_eq_getElem h]
  rfl
theorem toByteSS_l0 (l : List (List Int)) (hl : l.length ≤ 1048576) (hr : ∀ r ∈ l, r.length ≤ 1048576) : ∀ (d i : Nat) (ys : List (List Int)), l.length - i = d → i ≤ l.length → ys.length = l.length → ys.take i = l.take i → Ev (fun k => laws_toByteSS.l0 k l ys (i : Int)) l := by
  intro d
  induction d with
  | zero =>
    intro i ys hd hi hy ht
    refine Ev.step (fun _ => rfl) (ev_neg (by omega) (ev_some ?_))
    rw [List.take_of_length_le (by omega), List.take_of_length_le (by omega)] at ht
    exact ht
  | succ d ih =>
    intro i ys hd hi hy ht
    have hi' : i < l.length := by omega
    refine Ev.step (fun _ => rfl) (ev_pos (by omega) (ev_pos (by omega) ?_))
    rw [rd_L1_at l i hi']
    refine Ev.bind (toByteS_ev l[i] (hr _ (List.getElem_mem hi'))) (ev_pos (by omega) ?_)
    rw [wrap_succ (by omega), Int.toNat_natCast]
    exact ih (i + 1) _ (by omega) (by omega) (by simpa using hy) (set_take_succ ys l i (by omega) (by omega) ht)
theorem toByteSS_ev (l : List (List Int)) (hl : l.length ≤ 1048576) (hr : ∀ r ∈ l, r.length ≤ 1048576) : Ev (fun k => laws_toByteSS.f k l) l := by
  unfold laws_toByteSS.f
  refine ev_pos (by omega) (ev_pos (by omega) ?_)
  rw [Int.toNat_natCast]
  exact toByteSS_l0 l hl hr _ 0 _ rfl (by omega) (by simp) (by simp)

/-! ### laws_eqIntS -/
theorem eqIntS_l0 (a b : List Int) (hl : a.length ≤ 9000000000000000000) (hab : a.length = b.length) : ∀ (d i : Nat), a.length - i = d → i ≤ a.length → a.take i = b.take i → Ev (fun k => laws_eqIntS.l0 k a b (i : Int)) (decide (a = b)) := by
  intro d
  induction d with
  | zero =>
    intro i hd hi ht
    refine Ev.step (fun _ => rfl) (ev_neg (by omega) (ev_some ?_))
    rw [List.take_of_length_le (by omega), List.take_of_length_le (by omega)] at ht
    simp [ht]
  | succ d ih =>
    intro i hd hi ht
    refine Ev.step (fun _ => rfl) (ev_pos (by omega) (ev_pos (by omega) (ev_pos (by omega) ?_)))
    have ha : i < a.length := by omega
    have hb : i < b.length := by omega
    rw [rd_at ha, rd_at hb]
    by_cases e : a[i] = b[i]
    · refine ev_pos e ?_
      rw [wrap_succ (by omega)]
      exact ih (i + 1) (by omega) (by omega) (by rw [List.take_succ_eq_append_getElem ha, List.take_succ_eq_append_getElem hb, ht, e])
    · refine ev_neg e (ev_some ?_)
      have : a ≠ b := fun h => e (by subst h; rfl)
      simp [this]
theorem eqIntS_ev (a b : List Int) (hl : a.length ≤ 9000000000000000000) : Ev (fun k => laws_eqIntS.f k a b) (decide (a = b)) := by
  unfold laws_eqIntS.f
  by_cases h : a.length = b.length
  · refine ev_pos (by omega) ?_
    exact eqIntS_l0 a b hl h _ 0 rfl (by omega) (by simp)
  · refine ev_neg (by omega) (ev_some ?_)
    have : a ≠ b := fun e => h (by rw [e])
    simp [this]
theorem eqIntS_same (a : List Int) (hl : a.length ≤ 9000000000000000000) : Ev (fun k => laws_eqIntS.f k a a) true := ev_eq (by simp) (eqIntS_ev a a hl)

/-! ### laws_eqByteS -/
theorem eqByteS_l0 (a b : List Int) (hl : a.length ≤ 9000000000000000000) (hab : a.length = b.length) : ∀ (d i : Nat), a.length - i = d → i ≤ a.length → a.take i = b.take i → Ev (fun k => laws_eqByteS.l0 k a b (i : Int)) (decide (a = b)) := by
  intro d
  induction d with
  | zero =>
    intro i hd hi ht
    refine Ev.step (fun _ => rfl) (ev_neg (by omega) (ev_some ?_))
    rw [List.take_of_length_le (by omega), List.take_of_length_le (by omega)] at ht
    simp [ht]
  | succ d ih =>
    intro i hd hi ht
    refine Ev.step (fun _ => rfl) (ev_pos (by omega) (ev_pos (by omega) (ev_pos (by omega) ?_)))
    have ha : i < a.length := by omega
    have hb : i < b.length := by omega
    rw [rd_at ha, rd_at hb]
    by_cases e : a[i] = b[i]
    · refine ev_pos e ?_
      rw [wrap_succ (by omega)]
      exact ih (i + 1) (by omega) (by omega) (by rw [List.take_succ_eq_append_getElem ha, List.take_succ_eq_append_getElem hb, ht, e])
    · refine ev_neg e (ev_some ?_)
      have : a ≠ b := fun h => e (by subst h; rfl)
      simp [this]
theorem eqByteS_ev (a b : List Int) (hl : a.length ≤ 9000000000000000000) : Ev (fun k => laws_eqByteS.f k a b) (decide (a = b)) := by
  unfold laws_eqByteS.f
  by_cases h : a.length = b.length
  · refine ev_pos (by omega) ?_
    exact eqByteS_l0 a b hl h _ 0 rfl (by omega) (by simp)
  · refine ev_neg (by omega) (ev_some ?_)
    have : a ≠ b := fun e => h (by rw [e])
    simp [this]
theorem eqByteS_same (a : List Int) (hl : a.length ≤ 9000000000000000000) : Ev (fun k => laws_eqByteS.f k a a) true := ev_eq (by simp) (eqByteS_ev a a hl)

/-! ### laws_eqByteSS -/
theorem eqByteSS_l0 (a : List (List Int)) (hl : a.length ≤ 1048576) (hr : ∀ r ∈ a, r.length ≤ 1048576) : ∀ (d i : Nat), a.length - i = d → i ≤ a.length → Ev (fun k => laws_eqByteSS.l0 k a a (i : Int)) true := by
  intro d
  induction d with
  | zero =>
    intro i hd hi
    exact Ev.step (fun _ => rfl) (ev_neg (by omega) (Ev.now _))
  | succ d ih =>
    intro i hd hi
    have ha : i < a.length := by omega
    have hx := hr a[i] (List.getElem_mem ha)
    refine Ev.step (fun _ => rfl) (ev_pos (by omega) (ev_pos (by omega) (ev_pos (by omega) ?_)))
    rw [rd_L1_at a i ha, wrap_succ (by omega)]
    exact Ev.bind (eqByteS_same a[i] (by omega)) (ev_pos rfl (ih (i + 1) (by omega) (by omega)))
theorem eqByteSS_same (a : List (List Int)) (hl : a.length ≤ 1048576) (hr : ∀ r ∈ a, r.length ≤ 1048576) : Ev (fun k => laws_eqByteSS.f k a a) true := by
  unfold laws_eqByteSS.f
  exact ev_pos rfl (eqByteSS_l0 a hl hr _ 0 rfl (by omega))

/-! ### laws_stack -/
theorem szStack_ev (a : List Int) (h : List (List Int)) (ha : a.length ≤ 9223372036854775807) (hh : h.length ≤ 9223372036854775807) (hr : ∀ r ∈ h, r.length ≤ 9223372036854775807) (z : Int) (z0 : 0 ≤ z) (z1 : z ≤ 1048576) : ∃ r, Ev (fun k => laws_szStack.f k a h z) r ∧ r ≤ 1048576 ∧ (0 ≤ r → a.length ≤ 1048576 ∧ h.length ≤ 1048576 ∧ ∀ x ∈ h, x.length ≤ 1048576) := by
  unfold laws_szStack.f
  by_cases q : (a.length : Int) ≤ z
  · have e1 : laws_szIntS.f a z = some (z - a.length) := by
      unfold laws_szIntS.f
      rw [wrap_in (n := z - a.length) (by omega) (by omega), if_neg (by omega)]
    obtain ⟨r, e2, r1, k⟩ := szByteSS_ev h hh hr (z - a.length) (by omega) (by omega)
    by_cases h1 : r < 0
    · exact ⟨-1, ev_bind0 e1 (ev_neg (by omega) (Ev.bind e2 (ev_pos h1 (Ev.now _)))), by omega, fun h0 => absurd h0 (by omega)⟩
    · exact ⟨r, ev_bind0 e1 (ev_neg (by omega) (Ev.bind e2 (ev_neg h1 (Ev.now _)))), r1, fun h0 => ⟨by omega, k h0⟩⟩
  · have e1 : laws_szIntS.f a z = some (-1) := by
      unfold laws_szIntS.f
      rw [wrap_in (n := z - a.length) (by omega) (by omega), if_pos (by omega)]
    exact ⟨-1, ev_bind0 e1 (ev_pos (by omega) (Ev.now _)), by omega, fun h0 => absurd h0 (by omega)⟩
theorem toStack_ev (a : List Int) (h : List (List Int)) (ha : a.length ≤ 1048576) (hh : h.length ≤ 1048576) (hr : ∀ r ∈ h, r.length ≤ 1048576) : Ev (fun k => laws_toStack.f k a h) (a, h) := by
  unfold laws_toStack.f
  exact Ev.bind (toIntS_ev a ha) (Ev.bind (toByteSS_ev h hh hr) (Ev.now _))
theorem eqStack_same (a : List Int) (h : List (List Int)) (ha : a.length ≤ 1048576) (hh : h.length ≤ 1048576) (hr : ∀ r ∈ h, r.length ≤ 1048576) : Ev (fun k => laws_eqStack.f k a h a h) true := by
  unfold laws_eqStack.f
  exact Ev.bind (eqIntS_same a (by omega)) (ev_pos rfl (Ev.bind (eqByteSS_same h hh hr) (ev_pos rfl (Ev.now _))))

/-! ### impl_StackOk -/
def stepOk (a : List Int) (j : Nat) : Prop := (0 ≤ rd a (j : Int) ∧ rd a (j : Int) ≤ 20) ∧ (0 < j → rd a (j : Int) < rd a ((j : Int) - 1))
def stackOk (a : List Int) (h : List (List Int)) : Prop := a.length = h.length ∧ (∀ j, j < a.length → stepOk a j) ∧ ∀ j, j < h.length → (rd_L2 h (j : Int)).length = 32
theorem spec_in20 (x : Int) : spec_l01In.f x 0 20 = some (decide (0 ≤ x ∧ x ≤ 20)) := by
  unfold spec_l01In.f
  by_cases h : x ≥ 0
  · rw [if_pos h]
    congr 1
    exact decide_eq_decide.2 (by omega)
  · rw [if_neg h, decide_eq_false (by omega)]
theorem impl_in20 (x : Int) : impl_within.f x 0 20 = some (decide (0 ≤ x ∧ x ≤ 20)) := by
  unfold impl_within.f
  by_cases h : 0 ≤ x
  · rw [if_pos h]
    congr 1
    exact decide_eq_decide.2 (by omega)
  · rw [if_neg h, decide_eq_false (by omega)]
theorem spec_stackOk_l0 (a : List Int) (h : List (List Int)) (b : Bool) (hb : b = true ↔ stackOk a h) (hl : a.length ≤ 1048576) (hah : a.length = h.length) : ∀ (d i : Nat), a.length - i = d → i ≤ a.length → (∀ j, j < i → stepOk a j ∧ (rd_L2 h (j : Int)).length = 32) → Ev (fun k => spec_StackOk.l0 k a (a.length : Int) (i : Int) a h) b := by
  intro d
  induction d with
  | zero =>
    intro i hd hi hp
    have : b = true := hb.2 ⟨hah, fun j hj => (hp j (by omega)).1, fun j hj => (hp j (by omega)).2⟩
    exact Ev.step (fun _ => rfl) (ev_neg (by omega) (ev_some this.symm))
  | succ d ih =>
    intro i hd hi hp
    have no : (¬ (stepOk a i ∧ (rd_L2 h (i : Int)).length = 32)) → b = false := fun hn => by
      cases b with
      | false => rfl
      | true =>
        have q := hb.1 rfl
        exact absurd ⟨q.2.1 i (by omega), q.2.2 i (by omega)⟩ hn
    refine Ev.step (fun _ => rfl) (ev_pos (by omega) (ev_pos (by omega) (ev_pos (by omega) (ev_bind0 (spec_in20 _) ?_))))
    by_cases h1 : 0 ≤ rd a (i : Int) ∧ rd a (i : Int) ≤ 20
    · refine ev_pos (decide_eq_true h1) (ev_pos (by omega) (ev_bind0 (x := decide ((rd_L2 h (i : Int)).length = 32)) ?_ ?_))
      · unfold spec_l07Hash.f
        congr 1
        rw [Bool.eq_iff_iff]
        simp only [beq_iff_eq, decide_eq_true_eq]
        omega
      · by_cases h2 : (rd_L2 h (i : Int)).length = 32
        · refine ev_pos (decide_eq_true h2) ?_
          by_cases h3 : 0 < i
          · rw [wrap_in (n := (i : Int) - 1) (by omega) (by omega), wrap_succ (by omega)]
            refine ev_pos (by omega) (ev_pos (by omega) (ev_pos (by omega) ?_))
            by_cases h4 : rd a ((i : Int) - 1) ≤ rd a (i : Int)
            · exact ev_pos h4 (ev_some (no (fun q => by have := q.1.2 h3; omega)).symm)
            · refine ev_neg h4 (ih (i + 1) (by omega) (by omega) fun j hj => ?_)
              by_cases e : j = i
              · subst e
                exact ⟨⟨h1, fun _ => by omega⟩, h2⟩
              · exact hp j (by omega)
          · rw [wrap_succ (by omega)]
            refine ev_neg (by omega) (ih (i + 1) (by omega) (by omega) fun j hj => ?_)
            obtain rfl : j = i := by omega
            exact ⟨⟨h1, fun q => absurd q h3⟩, h2⟩
        · exact ev_neg (by simpa using h2) (ev_some (no (fun q => h2 q.2)).symm)
    · exact ev_neg (by simpa using h1) (ev_some (no (fun q => h1 q.1.1)).symm)
theorem impl_hashes_l0 (h : List (List Int)) (b : Bool) (hb : b = true ↔ ∀ j, j < h.length → (rd_L2 h (j : Int)).length = 32) (hl : h.length ≤ 1048576) : ∀ (d i : Nat), h.length - i = d → i ≤ h.length → (∀ j, j < i → (rd_L2 h (j : Int)).length = 32) → Ev (fun k => impl_areHashes.l0 k h (h.length : Int) (i : Int)) b := by
  intro d
  induction d with
  | zero =>
    intro i hd hi hp
    have : b = true := hb.2 fun j hj => hp j (by omega)
    exact Ev.step (fun _ => rfl) (ev_neg (by omega) (ev_some this.symm))
  | succ d ih =>
    intro i hd hi hp
    refine Ev.step (fun _ => rfl) (ev_pos (by omega) (ev_pos (by omega) (ev_pos (by omega) ?_)))
    by_cases h2 : (rd_L2 h (i : Int)).length = 32
    · rw [wrap_succ (by omega)]
      refine ev_pos (by omega) (ih (i + 1) (by omega) (by omega) fun j hj => ?_)
      by_cases e : j = i
      · subst e
        exact h2
      · exact hp j (by omega)
    · refine ev_neg (by omega) (ev_some ?_)
      cases b with
      | false => rfl
      | true => exact absurd (hb.1 rfl i (by omega)) h2
theorem impl_stackOk_l0 (a : List Int) (h : List (List Int)) (b : Bool) (hb : b = true ↔ stackOk a h) (hl : a.length ≤ 1048576) (hlh : h.length ≤ 1048576) : ∀ (d i : Nat), a.length - i = d → i ≤ a.length → (∀ j, j < i → stepOk a j) → Ev (fun k => impl_StackOk.l0 k a (a.length : Int) (i : Int) a h) b := by
  intro d
  induction d with
  | zero =>
    intro i hd hi hp
    refine Ev.step (fun _ => rfl) (ev_neg (by omega) ?_)
    by_cases hah : a.length = h.length
    · refine ev_pos (by omega) (Ev.bind (a := b) ?_ (Ev.now _))
      refine impl_hashes_l0 h b ?_ hlh _ 0 rfl (by omega) (fun j hj => absurd hj (by omega))
      rw [hb]
      exact ⟨fun q => q.2.2, fun q => ⟨hah, fun j hj => hp j (by omega), q⟩⟩
    · refine ev_neg (by omega) (ev_some ?_)
      cases b with
      | false => rfl
      | true => exact absurd (hb.1 rfl).1 hah
  | succ d ih =>
    intro i hd hi hp
    have no : (¬ stepOk a i) → b = false := fun hn => by
      cases b with
      | false => rfl
      | true => exact absurd ((hb.1 rfl).2.1 i (by omega)) hn
    refine Ev.step (fun _ => rfl) (ev_pos (by omega) (ev_pos (by omega) (ev_pos (by omega) (ev_bind0 (impl_in20 _) ?_))))
    by_cases h1 : 0 ≤ rd a (i : Int) ∧ rd a (i : Int) ≤ 20
    · refine ev_pos (decide_eq_true h1) ?_
      by_cases h3 : 0 < i
      · rw [wrap_in (n := (i : Int) - 1) (by omega) (by omega), wrap_succ (by omega)]
        refine ev_pos (by omega) (ev_pos (by omega) (ev_pos (by omega) ?_))
        by_cases h4 : rd a (i : Int) ≥ rd a ((i : Int) - 1)
        · exact ev_pos h4 (ev_some (no (fun q => by have := q.2 h3; omega)).symm)
        · refine ev_neg h4 (ih (i + 1) (by omega) (by omega) fun j hj => ?_)
          by_cases e : j = i
          · subst e
            exact ⟨h1, fun _ => by omega⟩
          · exact hp j (by omega)
      · rw [wrap_succ (by omega)]
        refine ev_neg (by omega) (ih (i + 1) (by omega) (by omega) fun j hj => ?_)
        obtain rfl : j = i := by omega
        exact ⟨h1, fun q => absurd q h3⟩
    · exact ev_neg (by simpa using h1) (ev_some (no (fun q => h1 q.1)).symm)
theorem stackOk_both (a : List Int) (h : List (List Int)) (hl : a.length ≤ 1048576) (hlh : h.length ≤ 1048576) : ∃ b, (b = true ↔ stackOk a h) ∧ Ev (fun k => spec_StackOk.f k a h) b ∧ Ev (fun k => impl_StackOk.f k a h) b := by
  obtain ⟨b, hb⟩ : ∃ b : Bool, b = true ↔ stackOk a h := by
    rcases Classical.em (stackOk a h) with q | q
    · exact ⟨true, fun _ => q, fun _ => rfl⟩
    · exact ⟨false, fun e => absurd e Bool.false_ne_true, fun e => absurd e q⟩
  refine ⟨b, hb, ?_, impl_stackOk_l0 a h b hb hl hlh _ 0 rfl (by omega) (fun j hj => absurd hj (by omega))⟩
  unfold spec_StackOk.f
  by_cases hah : a.length = h.length
  · exact ev_pos (by omega) (spec_stackOk_l0 a h b hb hl hah _ 0 rfl (by omega) (fun j hj => absurd hj (by omega)))
  · refine ev_neg (by omega) (ev_some ?_)
    cases b with
    | false => rfl
    | true => exact absurd (hb.1 rfl).1 hah

attribute [local congr] bind_lazy ite_lazy
theorem stackSize_yes (a : List Int) (h : List (List Int)) (hl : a.length ≤ 1048576) (hok : stackOk a h) (ei : Ev (fun k => impl_StackOk.f k a h) true) : ∀ (d i : Nat) (x : Int), a.length - i = d → i ≤ a.length → ∃ r, Ev (fun k => spec_StackSize.l0 k x a (a.length : Int) (i : Int)) r ∧ Ev (fun k => impl_StackSize.l0 k x a (a.length : Int) (i : Int) a h) r := by
  intro d
  induction d with
  | zero =>
    intro i x hd hi
    exact ⟨x, Ev.step (fun _ => rfl) (ev_neg (by omega) (Ev.now _)), Ev.step (fun _ => rfl) (ev_neg (by omega) (Ev.now _))⟩
  | succ d ih =>
    intro i x hd hi
    have hs := (hok.2.1 i (by omega)).1.1
    obtain ⟨r, e1, e2⟩ := ih (i + 1) (wrap64 (x + (shl .i64 1 (rd a (i : Int))))) (by omega) (by omega)
    refine ⟨r, Ev.step (fun _ => rfl) (ev_pos (by omega) (ev_pos (by omega) (ev_pos (by omega) (ev_pos hs ?_)))), Ev.step (fun _ => rfl) (ev_pos (by omega) (ev_pos (by omega) (ev_pos (by omega) (Ev.bind ei (ev_pos rfl (ev_pos hs ?_))))))⟩
    · rw [wrap_succ (by omega)]
      exact e1
    · rw [wrap_succ (by omega)]
      exact e2
theorem stackSize_no (a : List Int) (h : List (List Int)) (hl : a.length ≤ 1048576) (ei : Ev (fun k => impl_StackOk.f k a h) false) : ∀ (d i : Nat) (x : Int), a.length - i = d → i ≤ a.length → Ev (fun k => impl_StackSize.l0 k x a (a.length : Int) (i : Int) a h) x := by
  intro d
  induction d with
  | zero =>
    intro i x hd hi
    exact Ev.step (fun _ => rfl) (ev_neg (by omega) (Ev.now _))
  | succ d ih =>
    intro i x hd hi
    refine Ev.step (fun _ => rfl) (ev_pos (by omega) (ev_pos (by omega) (ev_pos (by omega) (Ev.bind ei (ev_neg Bool.false_ne_true ?_)))))
    rw [wrap_succ (by omega)]
    exact ih (i + 1) x (by omega) (by omega)
theorem stackSize_both (a : List Int) (h : List (List Int)) (hl : a.length ≤ 1048576) (hlh : h.length ≤ 1048576) : ∃ r, Ev (fun k => spec_StackSize.f k a h) r ∧ Ev (fun k => impl_StackSize.f k a h) r := by
  obtain ⟨b, hb, e1, e2⟩ := stackOk_both a h hl hlh
  cases b with
  | true =>
    obtain ⟨r, f1, f2⟩ := stackSize_yes a h hl (hb.1 rfl) e2 _ 0 0 rfl (by omega)
    exact ⟨r, Ev.bind e1 (ev_pos rfl f1), f2⟩
  | false => exact ⟨0, Ev.bind e1 (ev_neg Bool.false_ne_true (Ev.now _)), stackSize_no a h hl e2 _ 0 0 rfl (by omega)⟩
theorem FnExactStackSize (a : List Int) (h : List (List Int)) (ha : a.length ≤ 9223372036854775807) (hh : h.length ≤ 9223372036854775807) (hr : ∀ r ∈ h, r.length ≤ 9223372036854775807) : ∃ k, laws_FnExactStackSize.f k a h = some true := by
  have main : Ev (fun k => laws_FnExactStackSize.f k a h) true := by
    unfold laws_FnExactStackSize.f
    obtain ⟨r, e1, r1, q1⟩ := szStack_ev a h ha hh hr 1048576 (by omega) (by omega)
    refine Ev.bind e1 ?_
    by_cases h1 : r < 0
    · exact ev_pos h1 (Ev.now _)
    obtain ⟨la, lh, lr⟩ := q1 (by omega)
    obtain ⟨s, e2, e3⟩ := stackSize_both a h la lh
    have t := toStack_ev a h la lh lr
    exact ev_neg h1 (Ev.bind t (Ev.bind e2 (Ev.bind t (Ev.bind e3 (ev_pos rfl (Ev.bind t (Ev.bind (eqStack_same a h la lh lr) (ev_pos rfl (Ev.now _)))))))))
  obtain ⟨K, h⟩ := main
  exact ⟨K, h K (Nat.le_refl _)⟩

end Go.Proofs.Ytdhbfpfonnelgaa.Pure
