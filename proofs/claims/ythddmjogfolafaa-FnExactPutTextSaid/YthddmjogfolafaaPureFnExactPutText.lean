/- The program's function answers what the reference's answers, for all arguments: the printed law comes to true. Conditions: those of the printed statement alone. -/
import Derived.Test.YthddmjogfolafaaPFnExactPutTextx2
import Derived.Test.YthddmjogfolafaaLib
set_option linter.unusedVariables false
set_option linter.unusedSimpArgs false
set_option maxRecDepth 4000
namespace Go.Proofs.Ythddmjogfolafaa.Pure
open Go.RowKit Go.Proofs.Ythddmjogfolafaa.PFnExactPutText Go.Proofs.YthddmjogfolafaaW.PrintWords Go.Proofs.YthddmjogfolafaaW.PrintLast Go.Proofs.YthddmjogfolafaaW.PrintMore Go.Proofs.Ythddmjogfolafaa.Lib

/-! ### laws_toByteS -/
theorem toByteS_l0 (l : List Int) (hl : l.length ≤ 1048576) : ∀ (d i : Nat) (ys : List Int), l.length - i = d → i ≤ l.length → ys.length = l.length → ys.take i = l.take i → Ev (fun k => laws_toByteS.l0 k l ys (i : Int)) l := by
  intro d
  induction d with
  | zero =>
    intro i ys hd hi hy ht
    refine Ev.step (fun _ => rfl) (ev_neg (by omega) (ev_some ?_))
    rw [List.take_of_length_le (by omega), List.take_of_length_le (by omega)] at ht
    exact ht
  | succ d ih =>
    intro i ys hd hi hy ht
    refine Ev.step (fun _ => rfl) (ev_pos (by omega) (ev_pos (by omega) (ev_pos (by omega) ?_)))
    rw [wrap_succ (by omega), rd_at (show i < l.length by omega), Int.toNat_natCast]
    exact ih (i + 1) _ (by omega) (by omega) (by simpa using hy) (set_take_succ ys l i (by omega) (by omega) ht)
theorem toByteS_ev (l : List Int) (hl : l.length ≤ 1048576) : Ev (fun k => laws_toByteS.f k l) l := by
  unfold laws_toByteS.f
  refine ev_pos (by omega) (ev_pos (by omega) ?_)
  rw [Int.toNat_natCast]
  exact toByteS_l0 l hl _ 0 _ rfl (by omega) (by simp) (by simp)

/-! ### laws_eqByteS -/
theorem eqByteS_l0 (a b : List Int) (hl : a.length ≤ 9000000000000000000) (hab : a.length = b.length) : ∀ (d i : Nat), a.length - i = d → i ≤ a.length → a.take i = b.take i → Ev (fun k => laws_eqByteS.l0 k a b (i : Int)) (decide (a = b)) := by
  intro d
  induction d with
  | zero =>
    intro i hd hi ht
    refine Ev.step (fun _ => rfl) (ev_neg (by omega) (ev_some ?_))
    rw [List.take_of_length_le (by omega), List.take_of_length_le (by omega)] at ht
    simp [ht]
  | succ d ih =>
    intro i hd hi ht
    refine Ev.step (fun _ => rfl) (ev_pos (by omega) (ev_pos (by omega) (ev_pos (by omega) ?_)))
    have ha : i < a.length := by omega
    have hb : i < b.length := by omega
    rw [rd_at ha, rd_at hb]
    by_cases e : a[i] = b[i]
    · refine ev_pos e ?_
      rw [wrap_succ (by omega)]
      exact ih (i + 1) (by omega) (by omega) (by rw [List.take_succ_eq_append_getElem ha, List.take_succ_eq_append_getElem hb, ht, e])
    · refine ev_neg e (ev_some ?_)
      have : a ≠ b := fun h => e (by subst h; rfl)
      simp [this]
theorem eqByteS_ev (a b : List Int) (hl : a.length ≤ 9000000000000000000) : Ev (fun k => laws_eqByteS.f k a b) (decide (a = b)) := by
  unfold laws_eqByteS.f
  by_cases h : a.length = b.length
  · refine ev_pos (by omega) ?_
    exact eqByteS_l0 a b hl h _ 0 rfl (by omega) (by simp)
  · refine ev_neg (by omega) (ev_some ?_)
    have : a ≠ b := fun e => h (by rw [e])
    simp [this]
theorem eqByteS_same (a : List Int) (hl : a.length ≤ 9000000000000000000) : Ev (fun k => laws_eqByteS.f k a a) true := ev_eq (by simp) (eqByteS_ev a a hl)

/-! ### impl_PutVar -/
theorem spec_putVar_l0 : ∀ (d : Nat) (n : Nat) (l : List Int), n ≤ d → n ≤ 1152921504606846975 → l.length + n.log2 < 140737488355000 → Ev (fun k => spec_PutVar.l0 k (n : Int) l) (l ++ varBytes n, true) := by
  intro d
  induction d using Nat.strongRecOn with
  | ind d ih =>
    intro n l hd hn hl
    by_cases h : n < 128
    · refine Ev.step (fun _ => rfl) (ev_neg (by omega) (ev_pos (by omega) (ev_some ?_)))
      rw [varBytes_small h, show (n : Int) % 256 = n by omega]
    · have hlog : (n / 128).log2 + 7 = n.log2 := log2_128 (by omega)
      refine Ev.step (fun _ => rfl) (ev_pos (by omega) (ev_pos (by omega) ?_))
      rw [varBytes_big (by omega), Int.tdiv_eq_ediv_of_nonneg (by omega), Int.tmod_eq_emod_of_nonneg (by omega), wrap_in (n := (n : Int) / 128) (by omega) (by omega), wrap_in (by omega) (by omega)]
      have := ih (n / 128) (by omega) (n / 128) (l ++ [(n : Int) % 128 + 128]) (Nat.le_refl _) (by omega) (by simp; omega)
      rw [show (128 + (n : Int) % 128) % 256 = (n : Int) % 128 + 128 by omega]
      simpa using this
theorem impl_putVar_l0 : ∀ (k : Nat) (n : Int) (l : List Int), impl_PutVar.l0 k n l = spec_PutVar.l0 k n l := by
  intro k
  induction k with
  | zero => intro n l; rfl
  | succ k ih =>
    intro n l
    have e : (n ≥ 128) = (n > 127) := propext ⟨fun h => by omega, fun h => by omega⟩
    simp only [impl_PutVar.l0, spec_PutVar.l0, ih, Int.add_comm 128, e]
def putVar (l : List Int) (n : Int) : List Int × Bool := if 0 ≤ n ∧ n ≤ 1152921504606846975 then (l ++ varBytes n.toNat, true) else ([], false)
theorem spec_putVar (l : List Int) (n : Int) (hl : l.length ≤ 4194304) : Ev (fun k => spec_PutVar.f k l n) (putVar l n) := by
  unfold spec_PutVar.f putVar spec_l01Num.f spec_l01In.f spec_l01Copy.f
  by_cases h0 : 0 ≤ n
  · by_cases h1 : n ≤ 1152921504606846975
    · obtain ⟨m, rfl⟩ := Int.eq_ofNat_of_zero_le h0
      have hlog : m.log2 < 64 := by
        by_cases hm : m = 0
        · subst hm; decide
        · exact (Nat.log2_lt hm).2 (by omega)
      have := spec_putVar_l0 m m l (Nat.le_refl _) (by omega) (by omega)
      have hc : ((([] : List Int)).length + l.length < 140737488355328) := by simp; omega
      simpa [h0, h1, show l.length < 140737488355328 by omega] using this
    · simp [h0, h1]; exact Ev.now _
  · simp [h0]; exact Ev.now _
theorem impl_putVar (l : List Int) (n : Int) (hl : l.length ≤ 4194304) : Ev (fun k => impl_PutVar.f k l n) (putVar l n) := by
  refine Ev.congr (fun k => ?_) (spec_putVar l n hl)
  unfold impl_PutVar.f spec_PutVar.f spec_l01Num.f spec_l01In.f impl_isNum.f impl_within.f spec_l01Copy.f impl_copyBytes.f
  simp only [impl_putVar_l0, ge_iff_le]
theorem putVar_length (l : List Int) (n : Int) : (putVar l n).1.length ≤ l.length + 64 := by
  unfold putVar
  split
  · rename_i h
    have := varBytes_length n.toNat
    have hlog : n.toNat.log2 < 64 := by
      by_cases hm : n.toNat = 0
      · rw [hm]; decide
      · exact (Nat.log2_lt hm).2 (by omega)
    simp
    omega
  · simp
theorem putVar_bytes (l : List Int) (n : Int) (hl : Bytes l) : Bytes (putVar l n).1 := by
  unfold putVar
  split
  · exact hl.app (varBytes_bytes _)
  · exact Bytes.nil

/-! ### impl_PutText -/
def putText (l x : List Int) : List Int := (putVar l (x.length : Int)).1 ++ x
theorem spec_putText (l x : List Int) (hl : l.length ≤ 4194304) (hx : x.length ≤ 4194304) : Ev (fun k => spec_PutText.f k l x) (putText l x) := by
  have := putVar_length l (x.length : Int)
  exact Ev.bind (spec_putVar l (x.length : Int) hl) (ev_pos (by omega) (Ev.now _))
theorem impl_putText (l x : List Int) (hl : l.length ≤ 4194304) (hx : x.length ≤ 4194304) : Ev (fun k => impl_PutText.f k l x) (putText l x) := by
  have := putVar_length l (x.length : Int)
  exact Ev.bind (impl_putVar l (x.length : Int) hl) (ev_pos (by omega) (Ev.now _))
theorem putText_length (l x : List Int) : (putText l x).length ≤ l.length + x.length + 64 := by
  have := putVar_length l (x.length : Int)
  unfold putText
  rw [List.length_append]
  omega

/-! ### laws_markByteS -/
theorem markByteS_l0 (a : Int) (n : Nat) (h0 : 0 ≤ a) (h1 : a + n ≤ 9000000000000000000) : ∀ (d i : Nat) (ys : List Int), n - i = d → i ≤ n → ys.length = n → ys.take i = (marks a n).take i → Ev (fun k => laws_markByteS.l0 k ys (a + (i : Int)) (i : Int)) (a + (n : Int), marks a n) := by
  intro d
  induction d with
  | zero =>
    intro i ys hd hi hy ht
    refine Ev.step (fun _ => rfl) (ev_neg (by omega) (ev_some ?_))
    rw [List.take_of_length_le (by omega), List.take_of_length_le (by rw [marks_length]; omega)] at ht
    rw [ht, show i = n by omega]
  | succ d ih =>
    intro i ys hd hi hy ht
    refine Ev.step (fun _ => rfl) (ev_pos (by omega) (ev_pos (by omega) ?_))
    have hm : i < (marks a n).length := by rw [marks_length]; omega
    have e : (a + (i : Int)) % 256 = (marks a n)[i] := by rw [← rd_at hm, marks_at a n (by omega)]
    rw [wrap_succ (by omega), wrap_in (by omega) (by omega), show a + (i : Int) + 1 = a + ((i + 1 : Nat) : Int) by omega, e, Int.toNat_natCast]
    exact ih (i + 1) _ (by omega) (by omega) (by simpa using hy) (set_take_succ ys (marks a n) i (by omega) hm ht)
theorem markByteS_ev (l : List Int) (a : Int) (h0 : 0 ≤ a) (h1 : a + l.length ≤ 9000000000000000000) : Ev (fun k => laws_markByteS.f k l a) (a + (l.length : Int), marks a l.length) := by
  unfold laws_markByteS.f
  have := markByteS_l0 a l.length h0 h1 _ 0 l rfl (by omega) rfl (by simp)
  simpa using this

/-! ### laws_heldByteS -/
theorem heldByteS_l0 (a : Int) (n : Nat) (h0 : 0 ≤ a) (h1 : a + n ≤ 9000000000000000000) : ∀ (d i : Nat), n - i = d → i ≤ n → Ev (fun k => laws_heldByteS.l0 k (marks a n) (a + (i : Int)) (i : Int)) (a + (n : Int)) := by
  intro d
  induction d with
  | zero =>
    intro i hd hi
    refine Ev.step (fun _ => rfl) (ev_neg (by rw [marks_length]; omega) (ev_some ?_))
    rw [show i = n by omega]
  | succ d ih =>
    intro i hd hi
    refine Ev.step (fun _ => rfl) (ev_pos (by rw [marks_length]; omega) (ev_pos (by omega) (ev_pos (marks_at a n (by omega)) ?_)))
    rw [wrap_succ (by omega), wrap_in (by omega) (by omega), show a + (i : Int) + 1 = a + ((i + 1 : Nat) : Int) by omega]
    exact ih (i + 1) (by omega) (by omega)
theorem heldByteS_ev (a : Int) (n : Nat) (h0 : 0 ≤ a) (h1 : a + n ≤ 9000000000000000000) : Ev (fun k => laws_heldByteS.f k (marks a n) a) (a + (n : Int)) := by
  unfold laws_heldByteS.f
  have := heldByteS_l0 a n h0 h1 _ 0 rfl (by omega)
  simpa using this

attribute [local congr] bind_lazy ite_lazy
theorem FnExactPutText : laws_FnExactPutText.Pure := by
  intro l x _ _ hw_l _ _ hw_x
  have hb_l := bytes_of_wf hw_l
  have hb_x := bytes_of_wf hw_x
  by_cases g_l : (l.length : Int) > 1048576
  · exact ⟨0, by simp only [laws_FnExactPutText.f, if_pos g_l]⟩
  by_cases g_x : (x.length : Int) > 1048576
  · exact ⟨0, by simp only [laws_FnExactPutText.f, if_neg g_l, if_pos g_x]⟩
  obtain ⟨K0, t_l⟩ := toByteS_ev l (by omega)
  obtain ⟨K1, q_l⟩ := eqByteS_same l (by omega)
  obtain ⟨K2, t_x⟩ := toByteS_ev x (by omega)
  obtain ⟨K3, q_x⟩ := eqByteS_same x (by omega)
  obtain ⟨K4, es⟩ := spec_putText l x (by omega) (by omega)
  obtain ⟨K5, ei⟩ := impl_putText l x (by omega) (by omega)
  have hr0 := putText_length l x
  generalize putText l x = r at es ei hr0
  obtain ⟨K6, m_l⟩ := markByteS_ev l (1) (by omega) (by omega)
  obtain ⟨K7, m_x⟩ := markByteS_ev x (1 + (l.length : Int)) (by omega) (by omega)
  have neg0 : ¬ (1 + (l.length : Int) + (x.length : Int) < 0) := by omega
  obtain ⟨K8, q_r⟩ := eqByteS_same r (by omega)
  obtain ⟨K9, m_r⟩ := markByteS_ev r (1) (by omega) (by omega)
  obtain ⟨K10, h_r⟩ := heldByteS_ev (1) r.length (by omega) (by omega)
  have neg1 : ¬ (1 + (r.length : Int) < 0) := by omega
  refine ⟨K0 + K1 + K2 + K3 + K4 + K5 + K6 + K7 + K8 + K9 + K10 + 4, ?_⟩
  simp (disch := omega) only [laws_FnExactPutText.f, laws_FnExactPutText.j0, if_neg g_l, if_neg g_x, t_l, q_l, t_x, q_x, es, ei, m_l, m_x, q_r, m_r, h_r, if_neg neg0, if_neg neg1, bind_at, bne_self_eq_false, Bool.not_true, Bool.not_false, Bool.false_eq_true, if_true, if_false]

end Go.Proofs.Ythddmjogfolafaa.Pure
