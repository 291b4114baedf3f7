/- The program's function answers what the reference's answers, for all arguments: the printed law comes to true. Conditions: those of the printed statement alone. -/
import Derived.Test.YtmjbfnolfkfnjaaPFnExactPutFixx2
import Derived.Test.YtmjbfnolfkfnjaaLib
import Derived.Test.YtmjbfnolfkfnjaaLibNum
set_option linter.unusedVariables false
set_option linter.unusedSimpArgs false
set_option maxRecDepth 4000
namespace Go.Proofs.Ytmjbfnolfkfnjaa.Pure
open Go.RowKit Go.Proofs.Ytmjbfnolfkfnjaa.PFnExactPutFix Go.Proofs.YtmjbfnolfkfnjaaW.PrintWords Go.Proofs.YtmjbfnolfkfnjaaW.PrintLast Go.Proofs.YtmjbfnolfkfnjaaW.PrintMore Go.Proofs.Ytmjbfnolfkfnjaa.Lib

/-! ### laws_toByteS -/
theorem toByteS_l0 (l : List Int) (hl : l.length ≤ 1048576) : ∀ (d i : Nat) (ys : List Int), l.length - i = d → i ≤ l.length → ys.length = l.length → ys.take i = l.take i → Ev (fun k => laws_toByteS.l0 k l ys (i : Int)) l := by
  intro d
  induction d with
  | zero =>
    intro i ys hd hi hy ht
    refine Ev.step (fun _ => rfl) (ev_neg (by omega) (ev_some ?_))
    rw [List.take_of_length_le (by omega), List.take_of_length_le (by omega)] at ht
    exact ht
  | succ d ih =>
    intro i ys hd hi hy ht
    refine Ev.step (fun _ => rfl) (ev_pos (by omega) (ev_pos (by omega) (ev_pos (by omega) ?_)))
    rw [wrap_succ (by omega), rd_at (show i < l.length by omega), Int.toNat_natCast]
    exact ih (i + 1) _ (by omega) (by omega) (by simpa using hy) (set_take_succ ys l i (by omega) (by omega) ht)
theorem toByteS_ev (l : List Int) (hl : l.length ≤ 1048576) : Ev (fun k => laws_toByteS.f k l) l := by
  unfold laws_toByteS.f
  refine ev_pos (by omega) (ev_pos (by omega) ?_)
  rw [Int.toNat_natCast]
  exact toByteS_l0 l hl _ 0 _ rfl (by omega) (by simp) (by simp)

/-! ### laws_eqByteS -/
theorem eqByteS_l0 (a b : List Int) (hl : a.length ≤ 9000000000000000000) (hab : a.length = b.length) : ∀ (d i : Nat), a.length - i = d → i ≤ a.length → a.take i = b.take i → Ev (fun k => laws_eqByteS.l0 k a b (i : Int)) (decide (a = b)) := by
  intro d
  induction d with
  | zero =>
    intro i hd hi ht
    refine Ev.step (fun _ => rfl) (ev_neg (by omega) (ev_some ?_))
    rw [List.take_of_length_le (by omega), List.take_of_length_le (by omega)] at ht
    simp [ht]
  | succ d ih =>
    intro i hd hi ht
    refine Ev.step (fun _ => rfl) (ev_pos (by omega) (ev_pos (by omega) (ev_pos (by omega) ?_)))
    have ha : i < a.length := by omega
    have hb : i < b.length := by omega
    rw [rd_at ha, rd_at hb]
    by_cases e : a[i] = b[i]
    · refine ev_pos e ?_
      rw [wrap_succ (by omega)]
      exact ih (i + 1) (by omega) (by omega) (by rw [List.take_succ_eq_append_getElem ha, List.take_succ_eq_append_getElem hb, ht, e])
    · refine ev_neg e (ev_some ?_)
      have : a ≠ b := fun h => e (by subst h; rfl)
      simp [this]
theorem eqByteS_ev (a b : List Int) (hl : a.length ≤ 9000000000000000000) : Ev (fun k => laws_eqByteS.f k a b) (decide (a = b)) := by
  unfold laws_eqByteS.f
  by_cases h : a.length = b.length
  · refine ev_pos (by omega) ?_
    exact eqByteS_l0 a b hl h _ 0 rfl (by omega) (by simp)
  · refine ev_neg (by omega) (ev_some ?_)
    have : a ≠ b := fun e => h (by rw [e])
    simp [this]
theorem eqByteS_same (a : List Int) (hl : a.length ≤ 9000000000000000000) : Ev (fun k => laws_eqByteS.f k a a) true := ev_eq (by simp) (eqByteS_ev a a hl)

/-! ### laws_markByteS -/
theorem markByteS_l0 (a : Int) (n : Nat) (h0 : 0 ≤ a) (h1 : a + n ≤ 9000000000000000000) : ∀ (d i : Nat) (ys : List Int), n - i = d → i ≤ n → ys.length = n → ys.take i = (marks a n).take i → Ev (fun k => laws_markByteS.l0 k ys (a + (i : Int)) (i : Int)) (a + (n : Int), marks a n) := by
  intro d
  induction d with
  | zero =>
    intro i ys hd hi hy ht
    refine Ev.step (fun _ => rfl) (ev_neg (by omega) (ev_some ?_))
    rw [List.take_of_length_le (by omega), List.take_of_length_le (by rw [marks_length]; omega)] at ht
    rw [ht, show i = n by omega]
  | succ d ih =>
    intro i ys hd hi hy ht
    refine Ev.step (fun _ => rfl) (ev_pos (by omega) (ev_pos (by omega) ?_))
    have hm : i < (marks a n).length := by rw [marks_length]; omega
    have e : (a + (i : Int)) % 256 = (marks a n)[i] := by rw [← rd_at hm, marks_at a n (by omega)]
    rw [wrap_succ (by omega), wrap_in (by omega) (by omega), show a + (i : Int) + 1 = a + ((i + 1 : Nat) : Int) by omega, e, Int.toNat_natCast]
    exact ih (i + 1) _ (by omega) (by omega) (by simpa using hy) (set_take_succ ys (marks a n) i (by omega) hm ht)
theorem markByteS_ev (l : List Int) (a : Int) (h0 : 0 ≤ a) (h1 : a + l.length ≤ 9000000000000000000) : Ev (fun k => laws_markByteS.f k l a) (a + (l.length : Int), marks a l.length) := by
  unfold laws_markByteS.f
  have := markByteS_l0 a l.length h0 h1 _ 0 l rfl (by omega) rfl (by simp)
  simpa using this

/-! ### laws_heldByteS -/
theorem heldByteS_l0 (a : Int) (n : Nat) (h0 : 0 ≤ a) (h1 : a + n ≤ 9000000000000000000) : ∀ (d i : Nat), n - i = d → i ≤ n → Ev (fun k => laws_heldByteS.l0 k (marks a n) (a + (i : Int)) (i : Int)) (a + (n : Int)) := by
  intro d
  induction d with
  | zero =>
    intro i hd hi
    refine Ev.step (fun _ => rfl) (ev_neg (by rw [marks_length]; omega) (ev_some ?_))
    rw [show i = n by omega]
  | succ d ih =>
    intro i hd hi
    refine Ev.step (fun _ => rfl) (ev_pos (by rw [marks_length]; omega) (ev_pos (by omega) (ev_pos (marks_at a n (by omega)) ?_)))
    rw [wrap_succ (by omega), wrap_in (by omega) (by omega), show a + (i : Int) + 1 = a + ((i + 1 : Nat) : Int) by omega]
    exact ih (i + 1) (by omega) (by omega)
theorem heldByteS_ev (a : Int) (n : Nat) (h0 : 0 ≤ a) (h1 : a + n ≤ 9000000000000000000) : Ev (fun k => laws_heldByteS.f k (marks a n) a) (a + (n : Int)) := by
  unfold laws_heldByteS.f
  have := heldByteS_l0 a n h0 h1 _ 0 rfl (by omega)
  simpa using this

/-! ### impl_PutFix -/
theorem spec_putFix_l0 (w : Nat) (hw : w ≤ 7) : ∀ (d i m : Nat) (acc : List Int), w - i = d → i ≤ w → m ≤ 9223372036854775807 → acc.length + d ≤ 140737488355000 → Ev (fun k => spec_PutFix.l0 k (m : Int) (w : Int) acc (i : Int)) (acc ++ digs m d, true) := by
  intro d
  induction d with
  | zero =>
    intro i m acc hd hi hm hl
    exact Ev.step (fun _ => rfl) (ev_neg (by omega) (ev_some (by simp [digs])))
  | succ d ih =>
    intro i m acc hd hi hm hl
    refine Ev.step (fun _ => rfl) (ev_pos (by omega) (ev_pos (by omega) ?_))
    rw [wrap_succ (by omega), Int.tdiv_eq_ediv_of_nonneg (by omega), Int.tmod_eq_emod_of_nonneg (by omega), wrap_in (by omega) (by omega), show (m : Int) % 256 % 256 = ((m % 256 : Nat) : Int) by omega, show (m : Int) / 256 = ((m / 256 : Nat) : Int) by omega]
    have := ih (i + 1) (m / 256) (acc ++ [((m % 256 : Nat) : Int)]) (by omega) (by omega) (by omega) (by simp; omega)
    simpa [digs] using this
theorem impl_putFix_l0 (w n : Nat) (hw : w ≤ 7) (hn : n ≤ 9223372036854775807) (acc : List Int) (ha : acc.length ≤ 140737488354000) : ∀ (d i : Nat), w - i = d → i ≤ w → Ev (fun k => impl_PutFix.l0 k (n : Int) (acc ++ digs n i) (w : Int) (i : Int)) (acc ++ digs n w, true) := by
  intro d
  induction d with
  | zero =>
    intro i hd hi
    refine Ev.step (fun _ => rfl) (ev_neg (by omega) (ev_some ?_))
    rw [show i = w by omega]
  | succ d ih =>
    intro i hd hi
    have hlen := digs_length i n
    refine Ev.step (fun _ => rfl) (ev_pos (by omega) (ev_pos (by rw [wrap_in (by omega) (by omega)]; omega) (ev_pos (by rw [List.length_append]; omega) ?_)))
    rw [wrap_succ (by omega), wrap_in (n := 8 * (i : Int)) (by omega) (by omega), shr_i64 _ _ (by omega) (by omega), show (8 * (i : Int)).toNat = 8 * i by omega]
    have e : (n : Int) / 2 ^ (8 * i) % 256 = ((n / 256 ^ i % 256 : Nat) : Int) := by
      rw [← pow256]
      simp
    rw [e, List.append_assoc, ← digs_snoc]
    exact ih (i + 1) (by omega) (by omega)
def putFix (l : List Int) (n w : Int) : List Int × Bool := if (1 ≤ w ∧ w ≤ 7) ∧ 0 ≤ n ∧ n < 256 ^ w.toNat then (l ++ digs n.toNat w.toNat, true) else ([], false)
theorem top_eq (w : Int) (h0 : 1 ≤ w) (h1 : w ≤ 7) : shl .i64 1 (wrap64 (8 * w)) = 256 ^ w.toNat ∧ (256 : Int) ^ w.toNat ≤ 72057594037927936 := by
  have hc : w = 1 ∨ w = 2 ∨ w = 3 ∨ w = 4 ∨ w = 5 ∨ w = 6 ∨ w = 7 := by omega
  rcases hc with rfl | rfl | rfl | rfl | rfl | rfl | rfl <;> decide +kernel
theorem spec_putFix (l : List Int) (n w : Int) (hl : l.length ≤ 4194304) : Ev (fun k => spec_PutFix.f k l n w) (putFix l n w) := by
  unfold spec_PutFix.f putFix spec_l01In.f
  have no : Ev (fun k => spec_PutFix.j0 k l n w true) ([], false) := Ev.step (f := fun _ => some ([], false)) (fun _ => by simp only [spec_PutFix.j0, if_true]) (Ev.now _)
  by_cases h0 : 1 ≤ w
  · by_cases h1 : w ≤ 7
    · rw [if_pos h0, show decide (w ≤ 7) = true by simpa using h1]
      simp only [Option.bind_some, if_true]
      by_cases h2 : n < 0
      · rw [if_neg (by omega)]
        exact ev_pos h2 no
      · obtain ⟨e, et⟩ := top_eq w h0 h1
        have e1 : spec_l01Top.f w = some (256 ^ w.toNat) := by
          unfold spec_l01Top.f
          rw [if_pos (by rw [wrap_in (by omega) (by omega)]; omega), e]
        refine ev_neg h2 (ev_bind0 e1 ?_)
        by_cases h3 : n < 256 ^ w.toNat
        · rw [if_pos (by omega), show decide (n ≥ 256 ^ w.toNat) = false by simp; omega]
          obtain ⟨m, rfl⟩ := Int.eq_ofNat_of_zero_le (show 0 ≤ n by omega)
          obtain ⟨v, rfl⟩ := Int.eq_ofNat_of_zero_le (show 0 ≤ w by omega)
          have hc : spec_l01Copy.f l = some l := by
            unfold spec_l01Copy.f
            simp only [Option.bind_some, List.nil_append, List.length_nil, Nat.zero_add]
            rw [if_pos (by omega)]
          refine Ev.step (f := fun k => (spec_l01Copy.f l).bind fun t118 => (spec_PutFix.l0 k (m : Int) (v : Int) t118 0)) (fun _ => by simp only [spec_PutFix.j0, Bool.false_eq_true, if_false]) (ev_bind0 hc ?_)
          exact spec_putFix_l0 v (by omega) v 0 m l (by omega) (by omega) (by omega) (by omega)
        · rw [if_neg (by omega), show decide (n ≥ 256 ^ w.toNat) = true by simp; omega]
          exact no
    · rw [if_pos h0, show decide (w ≤ 7) = false by simp; omega, if_neg (by omega)]
      exact no
  · rw [if_neg h0, if_neg (by omega)]
    exact no
theorem impl_putFix (l : List Int) (n w : Int) (hl : l.length ≤ 4194304) : Ev (fun k => impl_PutFix.f k l n w) (putFix l n w) := by
  unfold impl_PutFix.f putFix impl_within.f
  have no : Ev (fun k => impl_PutFix.j0 k l n w true) ([], false) := Ev.step (f := fun _ => some ([], false)) (fun _ => by simp only [impl_PutFix.j0, if_true]) (Ev.now _)
  by_cases h0 : 1 ≤ w
  · by_cases h1 : w ≤ 7
    · rw [if_pos h0, show decide (w ≤ 7) = true by simpa using h1]
      simp only [Option.bind_some, if_true]
      by_cases h2 : n < 0
      · rw [if_neg (by omega)]
        exact ev_pos h2 no
      · obtain ⟨e, et⟩ := top_eq w h0 h1
        refine ev_neg h2 (ev_pos (by rw [wrap_in (by omega) (by omega)]; omega) ?_)
        rw [e]
        by_cases h3 : n < 256 ^ w.toNat
        · rw [if_pos (by omega), show decide (n ≥ 256 ^ w.toNat) = false by simp; omega]
          obtain ⟨m, rfl⟩ := Int.eq_ofNat_of_zero_le (show 0 ≤ n by omega)
          obtain ⟨v, rfl⟩ := Int.eq_ofNat_of_zero_le (show 0 ≤ w by omega)
          have hc : impl_copyBytes.f l = some l := by
            unfold impl_copyBytes.f
            simp only [Option.bind_some, List.nil_append, List.length_nil, Nat.zero_add]
            rw [if_pos (by omega)]
          refine Ev.step (f := fun k => (impl_copyBytes.f l).bind fun t131 => (impl_PutFix.l0 k (m : Int) t131 (v : Int) 0)) (fun _ => by simp only [impl_PutFix.j0, Bool.false_eq_true, if_false]) (ev_bind0 hc ?_)
          have := impl_putFix_l0 v m (by omega) (by omega) l (by omega) v 0 (by omega) (by omega)
          simpa [digs] using this
        · rw [if_neg (by omega), show decide (n ≥ 256 ^ w.toNat) = true by simp; omega]
          exact no
    · rw [if_pos h0, show decide (w ≤ 7) = false by simp; omega, if_neg (by omega)]
      exact no
  · rw [if_neg h0, if_neg (by omega)]
    exact no
theorem putFix_length (l : List Int) (n w : Int) : (putFix l n w).1.length ≤ l.length + 7 := by
  unfold putFix
  split
  · simp [digs_length]; omega
  · simp

attribute [local congr] bind_lazy ite_lazy
theorem FnExactPutFix : laws_FnExactPutFix.Pure := by
  intro l n w _ _ hw_l hw_n hw_w
  have hb_l := bytes_of_wf hw_l
  by_cases g_l : (l.length : Int) > 1048576
  · exact ⟨0, by simp only [laws_FnExactPutFix.f, if_pos g_l]⟩
  obtain ⟨K0, t_l⟩ := toByteS_ev l (by omega)
  obtain ⟨K1, q_l⟩ := eqByteS_same l (by omega)
  obtain ⟨K2, es⟩ := spec_putFix l n w (by omega)
  obtain ⟨K3, ei⟩ := impl_putFix l n w (by omega)
  have hr0 := putFix_length l n w
  generalize putFix l n w = r at es ei hr0
  obtain ⟨r0, r1⟩ := r
  simp only at hr0
  obtain ⟨K4, m_l⟩ := markByteS_ev l (1) (by omega) (by omega)
  have neg0 : ¬ (1 + (l.length : Int) < 0) := by omega
  obtain ⟨K5, q_r0⟩ := eqByteS_same r0 (by omega)
  obtain ⟨K6, m_r0⟩ := markByteS_ev r0 (1) (by omega) (by omega)
  obtain ⟨K7, h_r0⟩ := heldByteS_ev (1) r0.length (by omega) (by omega)
  have neg1 : ¬ (1 + (r0.length : Int) < 0) := by omega
  refine ⟨K0 + K1 + K2 + K3 + K4 + K5 + K6 + K7 + 10, ?_⟩
  simp (disch := omega) only [laws_FnExactPutFix.f, laws_FnExactPutFix.j0, laws_FnExactPutFix.j1, laws_FnExactPutFix.j2, if_neg g_l, t_l, q_l, es, ei, m_l, q_r0, m_r0, h_r0, if_neg neg0, if_neg neg1, Option.bind_some, bne_self_eq_false, Bool.not_true, Bool.not_false, Bool.false_eq_true, if_true, if_false]

end Go.Proofs.Ytmjbfnolfkfnjaa.Pure
