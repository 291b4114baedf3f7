/- The program's function answers what the reference's answers, for all arguments: the printed law comes to true. Conditions: those of the printed statement alone. -/
import Derived.Test.YtmjbfnolfkfnjaaPFnExactGetFixx2
import Derived.Test.YtmjbfnolfkfnjaaLib
import Derived.Test.YtmjbfnolfkfnjaaLibNum
set_option linter.unusedVariables false
set_option linter.unusedSimpArgs false
set_option maxRecDepth 4000
namespace Go.Proofs.Ytmjbfnolfkfnjaa.Pure
open Go.RowKit Go.Proofs.Ytmjbfnolfkfnjaa.PFnExactGetFix Go.Proofs.YtmjbfnolfkfnjaaW.PrintWords Go.Proofs.YtmjbfnolfkfnjaaW.PrintLast Go.Proofs.YtmjbfnolfkfnjaaW.PrintMore Go.Proofs.Ytmjbfnolfkfnjaa.Lib

/-! ### laws_toByteS -/
theorem toByteS_l0 (l : List Int) (hl : l.length ≤ 1048576) : ∀ (d i : Nat) (ys : List Int), l.length - i = d → i ≤ l.length → ys.length = l.length → ys.take i = l.take i → Ev (fun k => laws_toByteS.l0 k l ys (i : Int)) l := by
  intro d
  induction d with
  | zero =>
    intro i ys hd hi hy ht
    refine Ev.step (fun _ => rfl) (ev_neg (by omega) (ev_some ?_))
    rw [List.take_of_length_le (by omega), List.take_of_length_le (by omega)] at ht
    exact ht
  | succ d ih =>
    intro i ys hd hi hy ht
    refine Ev.step (fun _ => rfl) (ev_pos (by omega) (ev_pos (by omega) (ev_pos (by omega) ?_)))
    rw [wrap_succ (by omega), rd_at (show i < l.length by omega), Int.toNat_natCast]
    exact ih (i + 1) _ (by omega) (by omega) (by simpa using hy) (set_take_succ ys l i (by omega) (by omega) ht)
theorem toByteS_ev (l : List Int) (hl : l.length ≤ 1048576) : Ev (fun k => laws_toByteS.f k l) l := by
  unfold laws_toByteS.f
  refine ev_pos (by omega) (ev_pos (by omega) ?_)
  rw [Int.toNat_natCast]
  exact toByteS_l0 l hl _ 0 _ rfl (by omega) (by simp) (by simp)

/-! ### laws_eqByteS -/
theorem eqByteS_l0 (a b : List Int) (hl : a.length ≤ 9000000000000000000) (hab : a.length = b.length) : ∀ (d i : Nat), a.length - i = d → i ≤ a.length → a.take i = b.take i → Ev (fun k => laws_eqByteS.l0 k a b (i : Int)) (decide (a = b)) := by
  intro d
  induction d with
  | zero =>
    intro i hd hi ht
    refine Ev.step (fun _ => rfl) (ev_neg (by omega) (ev_some ?_))
    rw [List.take_of_length_le (by omega), List.take_of_length_le (by omega)] at ht
    simp [ht]
  | succ d ih =>
    intro i hd hi ht
    refine Ev.step (fun _ => rfl) (ev_pos (by omega) (ev_pos (by omega) (ev_pos (by omega) ?_)))
    have ha : i < a.length := by omega
    have hb : i < b.length := by omega
    rw [rd_at ha, rd_at hb]
    by_cases e : a[i] = b[i]
    · refine ev_pos e ?_
      rw [wrap_succ (by omega)]
      exact ih (i + 1) (by omega) (by omega) (by rw [List.take_succ_eq_append_getElem ha, List.take_succ_eq_append_getElem hb, ht, e])
    · refine ev_neg e (ev_some ?_)
      have : a ≠ b := fun h => e (by subst h; rfl)
      simp [this]
theorem eqByteS_ev (a b : List Int) (hl : a.length ≤ 9000000000000000000) : Ev (fun k => laws_eqByteS.f k a b) (decide (a = b)) := by
  unfold laws_eqByteS.f
  by_cases h : a.length = b.length
  · refine ev_pos (by omega) ?_
    exact eqByteS_l0 a b hl h _ 0 rfl (by omega) (by simp)
  · refine ev_neg (by omega) (ev_some ?_)
    have : a ≠ b := fun e => h (by rw [e])
    simp [this]
theorem eqByteS_same (a : List Int) (hl : a.length ≤ 9000000000000000000) : Ev (fun k => laws_eqByteS.f k a a) true := ev_eq (by simp) (eqByteS_ev a a hl)

/-! ### impl_GetFix -/
def getRawI (l : List Int) (a n : Int) : List Int × Int × Int := if (0 ≤ a ∧ a ≤ l.length) ∧ 0 ≤ n ∧ n ≤ l.length - a then ((l.take (a + n).toNat).drop a.toNat, a + n, 0) else ([], 0, 1)
theorem impl_getRawI (l : List Int) (a n : Int) (hl : l.length ≤ 4194304) : impl_GetRaw.f l a n = some (getRawI l a n) := by
  unfold impl_GetRaw.f getRawI impl_within.f
  by_cases h1 : 0 ≤ a
  · by_cases h3 : a ≤ (l.length : Int)
    · rw [if_pos h1, show decide (a ≤ (l.length : Int)) = true by simpa using h3, wrap_in (n := (l.length : Int) - a) (by omega) (by omega)]
      simp only [Option.bind_some, if_true]
      by_cases h2 : 0 ≤ n
      · by_cases h4 : n ≤ (l.length : Int) - a
        · rw [if_pos h2, show decide (n ≤ (l.length : Int) - a) = true by simpa using h4]
          simp only [Option.bind_some, if_true]
          rw [if_pos (by omega), wrap_in (n := a + n) (by omega) (by omega), if_pos (by omega), if_pos (by omega), if_pos (by omega)]
          have hlen : ((l.take (a + n).toNat).drop a.toNat).length ≤ l.length := by simp; omega
          unfold impl_copyBytes.f
          simp only [Option.bind_some, List.nil_append, List.length_nil, Nat.zero_add]
          rw [if_pos (by omega)]
          rfl
        · rw [if_pos h2, show decide (n ≤ (l.length : Int) - a) = false by simp; omega]
          simp only [Option.bind_some, Bool.false_eq_true, if_false]
          rw [if_neg (by omega)]
      · rw [if_neg h2]
        simp only [Option.bind_some, Bool.false_eq_true, if_false]
        rw [if_neg (by omega)]
    · rw [if_pos h1, show decide (a ≤ (l.length : Int)) = false by simp; omega]
      simp only [Option.bind_some, Bool.false_eq_true, if_false]
      rw [if_neg (by omega)]
  · rw [if_neg h1]
    simp only [Option.bind_some, Bool.false_eq_true, if_false]
    rw [if_neg (by omega)]
def seg (l : List Int) (a w : Nat) : List Int := (l.take (a + w)).drop a
theorem seg_length (l : List Int) (a w : Nat) (h : a + w ≤ l.length) : (seg l a w).length = w := by simp [seg]; omega
theorem seg_at (l : List Int) (a w i : Nat) (h : a + w ≤ l.length) (hi : i < w) : (seg l a w)[i]'(by rw [seg_length l a w h]; exact hi) = l[a + i] := by
  simp [seg]
def getFix (l : List Int) (a w : Int) : Int × Int × Int := if 1 ≤ w ∧ w ≤ 7 then (if 0 ≤ a ∧ a ≤ l.length - w then (leVal (seg l a.toNat w.toNat), a + w, 0) else (0, 0, 1)) else (0, 0, 5)
theorem spec_getFix_l0 (l : List Int) (a w : Nat) (hb : Bytes l) (hl : l.length ≤ 4194304) (h : a + w ≤ l.length) (hw : w ≤ 7) : ∀ (i : Nat), i ≤ w → Ev (fun k => spec_GetFix.l0 k l (a : Int) (w : Int) (leVal ((seg l a w).drop i)) ((i : Int) - 1)) (leVal (seg l a w), (a : Int) + (w : Int), 0) := by
  intro i
  induction i with
  | zero =>
    intro hi
    refine Ev.step (fun _ => rfl) (ev_neg (by omega) (ev_some ?_))
    rw [wrap_in (by omega) (by omega)]
    rfl
  | succ i ih =>
    intro hi
    have hs : i < (seg l a w).length := by rw [seg_length l a w h]; omega
    have hai : a + i < l.length := by omega
    have hv := hb l[a + i] (List.getElem_mem hai)
    have hr := leVal_range ((seg l a w).drop (i + 1)) (((hb.take _).drop _).drop _)
    have hp : (256 : Int) ^ ((seg l a w).drop (i + 1)).length ≤ 281474976710656 := by
      have e1 : ((seg l a w).drop (i + 1)).length ≤ 6 := by rw [List.length_drop, seg_length l a w h]; omega
      have hc : ∀ j : Nat, j ≤ 6 → (256 : Int) ^ j ≤ 281474976710656 := by decide
      exact hc _ e1
    rw [show (((i + 1 : Nat) : Int) - 1) = (i : Int) by omega]
    refine Ev.step (fun _ => rfl) (ev_pos (by omega) (ev_pos (by rw [wrap_in (by omega) (by omega)]; omega) (ev_pos (by rw [wrap_in (by omega) (by omega)]; omega) ?_)))
    rw [wrap_in (n := (a : Int) + (i : Int)) (by omega) (by omega), show (a : Int) + (i : Int) = ((a + i : Nat) : Int) by omega, rd_at hai, wrap_in (n := l[a + i]) (by omega) (by omega), wrap_in (n := _ * 256) (by omega) (by omega), wrap_in (by omega) (by omega), wrap_in (n := (i : Int) - 1) (by omega) (by omega)]
    have e : leVal ((seg l a w).drop i) = leVal ((seg l a w).drop (i + 1)) * 256 + l[a + i] := by
      rw [List.drop_eq_getElem_cons hs, leVal, seg_at l a w i h (by omega)]
      omega
    rw [← e]
    exact ih (by omega)
theorem spec_getFix (l : List Int) (a w : Int) (hb : Bytes l) (hl : l.length ≤ 4194304) (ha : -9223372036854775808 ≤ a ∧ a ≤ 9223372036854775807) : Ev (fun k => spec_GetFix.f k l a w) (getFix l a w) := by
  unfold spec_GetFix.f getFix spec_l01In.f
  have no : Ev (fun k => spec_GetFix.j0 k l a w true) (0, 0, 1) := Ev.step (f := fun _ => some (0, 0, 1)) (fun _ => by simp only [spec_GetFix.j0, if_true]) (Ev.now _)
  by_cases h0 : 1 ≤ w
  · by_cases h1 : w ≤ 7
    · rw [if_pos h0, show decide (w ≤ 7) = true by simpa using h1, if_pos (show 1 ≤ w ∧ w ≤ 7 from ⟨h0, h1⟩)]
      simp only [Option.bind_some, if_true]
      by_cases h2 : a < 0
      · rw [if_neg (show ¬ (0 ≤ a ∧ a ≤ (l.length : Int) - w) by omega)]
        exact ev_pos h2 no
      · refine ev_neg h2 ?_
        rw [wrap_in (by omega) (by omega)]
        by_cases h3 : a ≤ (l.length : Int) - w
        · rw [if_pos (show 0 ≤ a ∧ a ≤ (l.length : Int) - w by omega), show decide (a > (l.length : Int) - w) = false by simp; omega]
          obtain ⟨m, rfl⟩ := Int.eq_ofNat_of_zero_le (show 0 ≤ a by omega)
          obtain ⟨v, rfl⟩ := Int.eq_ofNat_of_zero_le (show 0 ≤ w by omega)
          refine Ev.step (f := fun k => spec_GetFix.l0 k l (m : Int) (v : Int) 0 (wrap64 ((v : Int) - 1))) (fun _ => by simp only [spec_GetFix.j0, Bool.false_eq_true, if_false]) ?_
          rw [wrap_in (by omega) (by omega)]
          have := spec_getFix_l0 l m v hb hl (by omega) (by omega) v (Nat.le_refl _)
          rw [List.drop_of_length_le (by rw [seg_length l m v (by omega)]; omega)] at this
          exact this
        · rw [if_neg (show ¬ (0 ≤ a ∧ a ≤ (l.length : Int) - w) by omega), show decide (a > (l.length : Int) - w) = true by simp; omega]
          exact no
    · rw [if_pos h0, show decide (w ≤ 7) = false by simp; omega, if_neg (show ¬ (1 ≤ w ∧ w ≤ 7) by omega)]
      exact Ev.now _
  · rw [if_neg h0, if_neg (show ¬ (1 ≤ w ∧ w ≤ 7) by omega)]
    exact Ev.now _
theorem impl_getFix_l0 (s : List Int) (hb : Bytes s) (hl : s.length ≤ 7) (x y : Int) : ∀ (d i : Nat), s.length - i = d → i ≤ s.length → Ev (fun k => impl_GetFix.l0 k x y (leVal (s.take i)) s (s.length : Int) (i : Int)) (leVal s, x, y) := by
  intro d
  induction d with
  | zero =>
    intro i hd hi
    refine Ev.step (fun _ => rfl) (ev_neg (by omega) (ev_some ?_))
    rw [List.take_of_length_le (by omega)]
  | succ d ih =>
    intro i hd hi
    have hi' : i < s.length := by omega
    have hv := hb s[i] (List.getElem_mem hi')
    have ht : (s.take i).length = i := by simp; omega
    have hr := leVal_range (s.take i) (hb.take _)
    rw [ht] at hr
    have hp : ∀ j : Nat, j ≤ 6 → (2 : Int) ^ (8 * j) ≤ 281474976710656 ∧ (0 : Int) < 2 ^ (8 * j) := by decide
    obtain ⟨p1, p0⟩ := hp i (by omega)
    refine Ev.step (fun _ => rfl) (ev_pos (by omega) (ev_pos (by omega) (ev_pos (by omega) (ev_pos (by rw [wrap_in (by omega) (by omega)]; omega) ?_))))
    rw [wrap_in (n := 8 * (i : Int)) (by omega) (by omega), rd_at hi', wrap_in (n := s[i]) (by omega) (by omega), wrap_succ (by omega)]
    have q0 : 0 ≤ s[i] * 2 ^ (8 * i) := Int.mul_nonneg hv.1 (by omega)
    have q1 : s[i] * 2 ^ (8 * i) ≤ 255 * 281474976710656 := Int.mul_le_mul hv.2 p1 (by omega) (by omega)
    have hn : (8 * (i : Int)).toNat = 8 * i := by omega
    rw [shl_i64 s[i] (8 * (i : Int)) (by omega) (by omega) (by rw [hn]; exact q0) (by rw [hn]; omega), hn]
    rw [or_add (leVal (s.take i)) _ (8 * i) hr.1 (by rw [← pow256]; exact hr.2) q0 (by rw [Int.mul_emod_left]) (by omega) (by omega)]
    have e : leVal (s.take (i + 1)) = leVal (s.take i) + s[i] * 2 ^ (8 * i) := by
      rw [List.take_succ_eq_append_getElem hi', leVal_snoc, ht, pow256]
    rw [← e]
    exact ih (i + 1) (by omega) (by omega)
theorem impl_getFix (l : List Int) (a w : Int) (hb : Bytes l) (hl : l.length ≤ 4194304) (ha : -9223372036854775808 ≤ a ∧ a ≤ 9223372036854775807) : Ev (fun k => impl_GetFix.f k l a w) (getFix l a w) := by
  unfold impl_GetFix.f getFix
  have e0 : impl_within.f w 1 7 = some (decide (1 ≤ w ∧ w ≤ 7)) := by
    unfold impl_within.f
    by_cases h0 : 1 ≤ w <;> simp [h0]
  refine ev_bind0 e0 ?_
  by_cases h0 : 1 ≤ w ∧ w ≤ 7
  · rw [if_pos h0]
    refine ev_pos (by simpa using h0) (ev_bind0 (impl_getRawI l a w hl) ?_)
    by_cases h3 : 0 ≤ a ∧ a ≤ (l.length : Int) - w
    · rw [if_pos h3]
      obtain ⟨m, rfl⟩ := Int.eq_ofNat_of_zero_le (show 0 ≤ a by omega)
      obtain ⟨v, rfl⟩ := Int.eq_ofNat_of_zero_le (show 0 ≤ w by omega)
      have e : getRawI l (m : Int) (v : Int) = (seg l m v, (m : Int) + (v : Int), 0) := by
        unfold getRawI seg
        rw [if_pos (by omega)]
        rw [show ((m : Int) + (v : Int)).toNat = m + v by omega, Int.toNat_natCast]
      rw [e]
      have hs := seg_length l m v (by omega)
      have := impl_getFix_l0 (seg l m v) ((hb.take _).drop _) (by omega) ((m : Int) + (v : Int)) 0 _ 0 rfl (by omega)
      simpa [leVal] using this
    · rw [if_neg h3]
      have e : getRawI l a w = ([], 0, 1) := by
        unfold getRawI
        rw [if_neg (by omega)]
      rw [e]
      exact impl_getFix_l0 [] Bytes.nil (by simp) 0 1 0 0 rfl (by simp)
  · rw [if_neg h0]
    exact ev_neg (by simpa using h0) (Ev.now _)

attribute [local congr] bind_lazy ite_lazy
theorem FnExactGetFix : laws_FnExactGetFix.Pure := by
  intro l a w _ _ hw_l hw_a hw_w
  have hb_l := bytes_of_wf hw_l
  by_cases g_l : (l.length : Int) > 1048576
  · exact ⟨0, by simp only [laws_FnExactGetFix.f, if_pos g_l]⟩
  obtain ⟨K0, t_l⟩ := toByteS_ev l (by omega)
  obtain ⟨K1, q_l⟩ := eqByteS_same l (by omega)
  obtain ⟨K2, es⟩ := spec_getFix l a w hb_l (by omega) (wf_i64.1 hw_a)
  obtain ⟨K3, ei⟩ := impl_getFix l a w hb_l (by omega) (wf_i64.1 hw_a)
  generalize getFix l a w = r at es ei
  obtain ⟨r0, r1, r2⟩ := r
  refine ⟨K0 + K1 + K2 + K3 + 10, ?_⟩
  simp (disch := omega) only [laws_FnExactGetFix.f, laws_FnExactGetFix.j0, if_neg g_l, t_l, q_l, es, ei, Option.bind_some, bne_self_eq_false, Bool.not_true, Bool.not_false, Bool.false_eq_true, if_true, if_false]

end Go.Proofs.Ytmjbfnolfkfnjaa.Pure
