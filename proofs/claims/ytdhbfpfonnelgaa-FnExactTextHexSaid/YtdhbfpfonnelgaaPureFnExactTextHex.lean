/- The program's function answers what the reference's answers, for all arguments: the printed law comes to true. Conditions: those of the printed statement alone. -/
import Derived.Test.YtdhbfpfonnelgaaQFnExactTextHexx2
import Derived.Test.YtdhbfpfonnelgaaLib
set_option linter.unusedVariables false
set_option linter.unusedSimpArgs false
set_option maxRecDepth 4000
namespace Go.Proofs.Ytdhbfpfonnelgaa.Pure
open Go.RowKit Go.Proofs.Ytdhbfpfonnelgaa.QFnExactTextHex Go.Proofs.YtdhbfpfonnelgaaW.PrintWords Go.Proofs.YtdhbfpfonnelgaaW.PrintLast Go.Proofs.YtdhbfpfonnelgaaW.PrintMore Go.Proofs.Ytdhbfpfonnelgaa.Lib

/-! ### laws_eqByteS -/
theorem eqByteS_l0 (a b : List Int) (hl : a.length ≤ 9000000000000000000) (hab : a.length = b.length) : ∀ (d i : Nat), a.length - i = d → i ≤ a.length → a.take i = b.take i → Ev (fun k => laws_eqByteS.l0 k a b (i : Int)) (decide (a = b)) := by
  intro d
  induction d with
  | zero =>
    intro i hd hi ht
    refine Ev.step (fun _ => rfl) (ev_neg (by omega) (ev_some ?_))
    rw [List.take_of_length_le (by omega), List.take_of_length_le (by omega)] at ht
    simp [ht]
  | succ d ih =>
    intro i hd hi ht
    refine Ev.step (fun _ => rfl) (ev_pos (by omega) (ev_pos (by omega) (ev_pos (by omega) ?_)))
    have ha : i < a.length := by omega
    have hb : i < b.length := by omega
    rw [rd_at ha, rd_at hb]
    by_cases e : a[i] = b[i]
    · refine ev_pos e ?_
      rw [wrap_succ (by omega)]
      exact ih (i + 1) (by omega) (by omega) (by rw [List.take_succ_eq_append_getElem ha, List.take_succ_eq_append_getElem hb, ht, e])
    · refine ev_neg e (ev_some ?_)
      have : a ≠ b := fun h => e (by subst h; rfl)
      simp [this]
theorem eqByteS_ev (a b : List Int) (hl : a.length ≤ 9000000000000000000) : Ev (fun k => laws_eqByteS.f k a b) (decide (a = b)) := by
  unfold laws_eqByteS.f
  by_cases h : a.length = b.length
  · refine ev_pos (by omega) ?_
    exact eqByteS_l0 a b hl h _ 0 rfl (by omega) (by simp)
  · refine ev_neg (by omega) (ev_some ?_)
    have : a ≠ b := fun e => h (by rw [e])
    simp [this]
theorem eqByteS_same (a : List Int) (hl : a.length ≤ 9000000000000000000) : Ev (fun k => laws_eqByteS.f k a a) true := ev_eq (by simp) (eqByteS_ev a a hl)

/-! ### laws_markByteS -/
theorem markByteS_l0 (a : Int) (n : Nat) (h0 : 0 ≤ a) (h1 : a + n ≤ 9000000000000000000) : ∀ (d i : Nat) (ys : List Int), n - i = d → i ≤ n → ys.length = n → ys.take i = (marks a n).take i → Ev (fun k => laws_markByteS.l0 k ys (a + (i : Int)) (i : Int)) (a + (n : Int), marks a n) := by
  intro d
  induction d with
  | zero =>
    intro i ys hd hi hy ht
    refine Ev.step (fun _ => rfl) (ev_neg (by omega) (ev_some ?_))
    rw [List.take_of_length_le (by omega), List.take_of_length_le (by rw [marks_length]; omega)] at ht
    rw [ht, show i = n by omega]
  | succ d ih =>
    intro i ys hd hi hy ht
    refine Ev.step (fun _ => rfl) (ev_pos (by omega) (ev_pos (by omega) ?_))
    have hm : i < (marks a n).length := by rw [marks_length]; omega
    have e : (a + (i : Int)) % 256 = (marks a n)[i] := by rw [← rd_at hm, marks_at a n (by omega)]
    rw [wrap_succ (by omega), wrap_in (by omega) (by omega), show a + (i : Int) + 1 = a + ((i + 1 : Nat) : Int) by omega, e, Int.toNat_natCast]
    exact ih (i + 1) _ (by omega) (by omega) (by simpa using hy) (set_take_succ ys (marks a n) i (by omega) hm ht)
theorem markByteS_ev (l : List Int) (a : Int) (h0 : 0 ≤ a) (h1 : a + l.length ≤ 9000000000000000000) : Ev (fun k => laws_markByteS.f k l a) (a + (l.length : Int), marks a l.length) := by
  unfold laws_markByteS.f
  have := markByteS_l0 a l.length h0 h1 _ 0 l rfl (by omega) rfl (by simp)
  simpa using this

/-! ### laws_heldByteS -/
theorem heldByteS_l0 (a : Int) (n : Nat) (h0 : 0 ≤ a) (h1 : a + n ≤ 9000000000000000000) : ∀ (d i : Nat), n - i = d → i ≤ n → Ev (fun k => laws_heldByteS.l0 k (marks a n) (a + (i : Int)) (i : Int)) (a + (n : Int)) := by
  intro d
  induction d with
  | zero =>
    intro i hd hi
    refine Ev.step (fun _ => rfl) (ev_neg (by rw [marks_length]; omega) (ev_some ?_))
    rw [show i = n by omega]
  | succ d ih =>
    intro i hd hi
    refine Ev.step (fun _ => rfl) (ev_pos (by rw [marks_length]; omega) (ev_pos (by omega) (ev_pos (marks_at a n (by omega)) ?_)))
    rw [wrap_succ (by omega), wrap_in (by omega) (by omega), show a + (i : Int) + 1 = a + ((i + 1 : Nat) : Int) by omega]
    exact ih (i + 1) (by omega) (by omega)
theorem heldByteS_ev (a : Int) (n : Nat) (h0 : 0 ≤ a) (h1 : a + n ≤ 9000000000000000000) : Ev (fun k => laws_heldByteS.f k (marks a n) a) (a + (n : Int)) := by
  unfold laws_heldByteS.f
  have := heldByteS_l0 a n h0 h1 _ 0 rfl (by omega)
  simpa using this

attribute [local congr] bind_lazy ite_lazy
def hexVal (x : Int) : Int := if 48 ≤ x ∧ x ≤ 57 then x - 48 else if 97 ≤ x ∧ x ≤ 102 then x - 87 else -1
theorem spec_hexOf (x : Int) (h0 : 0 ≤ x) (h1 : x ≤ 255) : Ev (fun k => spec_l01HexOf.f k x) (hexVal x) := by
  unfold spec_l01HexOf.f
  by_cases a : x ≥ 48
  · refine ev_pos a ?_
    by_cases b : x ≤ 57
    · rw [decide_eq_true b]
      refine Ev.step (f := fun _ => some (wrap64 ((wrap64 (x)) - 48))) (fun _ => by simp only [spec_l01HexOf.j0, if_true]) (ev_some ?_)
      unfold hexVal
      rw [wrap_in (n := x) (by omega) (by omega), wrap_in (by omega) (by omega), if_pos (by omega)]
    · rw [decide_eq_false b]
      refine Ev.step (f := fun _ => if x ≥ 97 then (if x ≤ 102 then (some (wrap64 ((wrap64 (x)) - 87))) else (some (-1))) else (some (-1))) (fun _ => by simp only [spec_l01HexOf.j0, Bool.false_eq_true, if_false]) ?_
      by_cases c : x ≥ 97
      · refine ev_pos c ?_
        by_cases d : x ≤ 102
        · refine ev_pos d (ev_some ?_)
          unfold hexVal
          rw [if_neg (by omega), wrap_in (n := x) (by omega) (by omega), wrap_in (by omega) (by omega), if_pos (by omega)]
        · refine ev_neg d (ev_some ?_)
          unfold hexVal
          rw [if_neg (by omega), if_neg (by omega)]
      · refine ev_neg c (ev_some ?_)
        unfold hexVal
        rw [if_neg (by omega), if_neg (by omega)]
  · refine ev_neg a (Ev.step (f := fun _ => if x ≥ 97 then (if x ≤ 102 then (some (wrap64 ((wrap64 (x)) - 87))) else (some (-1))) else (some (-1))) (fun _ => by simp only [spec_l01HexOf.j0, Bool.false_eq_true, if_false]) (ev_neg (by omega) (ev_some ?_)))
    unfold hexVal
    rw [if_neg (by omega), if_neg (by omega)]
theorem index_all : ∀ x : Fin 256, Lib.indexByte [48, 49, 50, 51, 52, 53, 54, 55, 56, 57, 97, 98, 99, 100, 101, 102] x.val.toUInt8 = hexVal (x.val : Int) := by decide +kernel
theorem impl_hexOf (x : Int) (h0 : 0 ≤ x) (h1 : x ≤ 255) : strings_IndexByte.f (⟨#[48, 49, 50, 51, 52, 53, 54, 55, 56, 57, 97, 98, 99, 100, 101, 102]⟩ : ByteArray) x = some (hexVal x) := by
  have := index_all ⟨x.toNat, by omega⟩
  simp only [Int.toNat_of_nonneg h0] at this
  unfold strings_IndexByte.f
  rw [← this]
theorem textHex_l0 (s : ByteArray) (hs : s.size ≤ 1048576) (he : s.size % 2 = 0) : ∀ (d i : Nat) (acc : List Int), s.size / 2 - i = d → i ≤ s.size / 2 → acc.length ≤ i → ∃ r, Ev (fun k => spec_TextHex.l0 k s acc ((2 * i : Nat) : Int)) r ∧ Ev (fun k => impl_TextHex.l0 k s acc ((2 * i : Nat) : Int)) r ∧ r.1.length ≤ s.size := by
  intro d
  induction d with
  | zero =>
    intro i acc hd hi ha
    exact ⟨(acc, true), Ev.step (fun _ => rfl) (ev_neg (by omega) (Ev.now _)), Ev.step (fun _ => rfl) (ev_neg (by omega) (Ev.now _)), by simp only; omega⟩
  | succ d ih =>
    intro i acc hd hi ha
    have b1 := bt_range s ((2 * i : Nat) : Int)
    have b2 := bt_range s (wrap64 (((2 * i : Nat) : Int) + 1))
    have e1 := spec_hexOf _ b1.1 b1.2
    have e2 := spec_hexOf _ b2.1 b2.2
    have f1 := impl_hexOf _ b1.1 b1.2
    have f2 := impl_hexOf _ b2.1 b2.2
    have w1 : wrap64 (((2 * i : Nat) : Int) + 1) = ((2 * i : Nat) : Int) + 1 := wrap_in (by omega) (by omega)
    have w2 : wrap64 (((2 * i : Nat) : Int) + 2) = ((2 * (i + 1) : Nat) : Int) := by rw [wrap_in (by omega) (by omega)]; omega
    rw [w1] at b2 e2 f2
    generalize hexVal (bt s ((2 * i : Nat) : Int)) = x at *
    generalize hexVal (bt s (((2 * i : Nat) : Int) + 1)) = y at *
    by_cases hx : x < 0
    · refine ⟨([], false), Ev.step (fun _ => rfl) (ev_pos (by omega) (ev_pos (by omega) (Ev.bind e1 ?_))), Ev.step (fun _ => rfl) (ev_pos (by omega) (ev_pos (by omega) (ev_bind0 f1 ?_))), by simp⟩
      · rw [w1]
        exact ev_pos (by omega) (ev_pos (by omega) (Ev.bind e2 (ev_pos hx (Ev.now _))))
      · rw [w1]
        exact ev_pos (by omega) (ev_pos (by omega) (ev_bind0 f2 (ev_pos hx (Ev.now _))))
    by_cases hy : y < 0
    · refine ⟨([], false), Ev.step (fun _ => rfl) (ev_pos (by omega) (ev_pos (by omega) (Ev.bind e1 ?_))), Ev.step (fun _ => rfl) (ev_pos (by omega) (ev_pos (by omega) (ev_bind0 f1 ?_))), by simp⟩
      · rw [w1]
        exact ev_pos (by omega) (ev_pos (by omega) (Ev.bind e2 (ev_neg hx (ev_pos hy (Ev.now _)))))
      · rw [w1]
        exact ev_pos (by omega) (ev_pos (by omega) (ev_bind0 f2 (ev_neg hx (ev_pos hy (Ev.now _)))))
    obtain ⟨r, g1, g2, g3⟩ := ih (i + 1) (acc ++ [(wrap64 ((wrap64 (16 * x)) + y)) % 256]) (by omega) (by omega) (by simp; omega)
    refine ⟨r, Ev.step (fun _ => rfl) (ev_pos (by omega) (ev_pos (by omega) (Ev.bind e1 ?_))), Ev.step (fun _ => rfl) (ev_pos (by omega) (ev_pos (by omega) (ev_bind0 f1 ?_))), g3⟩
    · rw [w1, w2]
      exact ev_pos (by omega) (ev_pos (by omega) (Ev.bind e2 (ev_neg hx (ev_neg hy (ev_pos (by omega) g1)))))
    · rw [w1, w2]
      exact ev_pos (by omega) (ev_pos (by omega) (ev_bind0 f2 (ev_neg hx (ev_neg hy (ev_pos (by omega) g2)))))
theorem textHex_both (s : ByteArray) (hs : s.size ≤ 1048576) : ∃ r, Ev (fun k => spec_TextHex.f k s) r ∧ Ev (fun k => impl_TextHex.f k s) r ∧ r.1.length ≤ s.size := by
  by_cases h : ((s.size : Int) % 2) = 1
  · exact ⟨([], false), ev_pos h (Ev.now _), ev_pos h (Ev.now _), by simp⟩
  · obtain ⟨r, e1, e2, e3⟩ := textHex_l0 s hs (by omega) _ 0 [] rfl (by omega) (by simp)
    exact ⟨r, ev_neg h e1, ev_neg h e2, e3⟩
theorem FnExactTextHex : laws_FnExactTextHex.Pure := by
  intro s _
  by_cases g : (s.size : Int) > 1048576
  · exact ⟨0, by simp only [laws_FnExactTextHex.f, if_pos g]⟩
  obtain ⟨r, ⟨K2, es⟩, ⟨K3, ei⟩, hr0⟩ := textHex_both s (by omega)
  obtain ⟨r0, r1⟩ := r
  simp only at hr0
  obtain ⟨K5, q_r0⟩ := eqByteS_same r0 (by omega)
  obtain ⟨K6, m_r0⟩ := markByteS_ev r0 (1) (by omega) (by omega)
  obtain ⟨K7, h_r0⟩ := heldByteS_ev (1) r0.length (by omega) (by omega)
  have neg1 : ¬ (1 + (r0.length : Int) < 0) := by omega
  refine ⟨K2 + K3 + K5 + K6 + K7 + 4, ?_⟩
  simp (disch := omega) only [laws_FnExactTextHex.f, laws_FnExactTextHex.j0, laws_FnExactTextHex.j1, if_neg g, es, ei, q_r0, m_r0, h_r0, if_neg neg1, bind_at, bne_self_eq_false, Bool.not_true, Bool.not_false, Bool.false_eq_true, if_true, if_false]

end Go.Proofs.Ytdhbfpfonnelgaa.Pure
