/- The program's function answers what the reference's answers, for all arguments: the printed law comes to true. Conditions: those of the printed statement alone. -/
import Derived.Test.YtodnajlgjcoodaaPFnExactHexTextx1
import Derived.Test.YtodnajlgjcoodaaLib
set_option linter.unusedVariables false
set_option linter.unusedSimpArgs false
set_option maxRecDepth 4000
namespace Go.Proofs.Ytodnajlgjcoodaa.Pure
open Go.RowKit Go.Proofs.Ytodnajlgjcoodaa.PFnExactHexText Go.Proofs.YtodnajlgjcoodaaW.PrintWords Go.Proofs.YtodnajlgjcoodaaW.PrintLast Go.Proofs.YtodnajlgjcoodaaW.PrintMore Go.Proofs.Ytodnajlgjcoodaa.Lib

/-! ### laws_toByteS -/
theorem toByteS_l0 (l : List Int) (hl : l.length ≤ 1048576) : ∀ (d i : Nat) (ys : List Int), l.length - i = d → i ≤ l.length → ys.length = l.length → ys.take i = l.take i → Ev (fun k => laws_toByteS.l0 k l ys (i : Int)) l := by
  intro d
  induction d with
  | zero =>
    intro i ys hd hi hy ht
    refine Ev.step (fun _ => rfl) (ev_neg (by omega) (ev_some ?_))
    rw [List.take_of_length_le (by omega), List.take_of_length_le (by omega)] at ht
    exact ht
  | succ d ih =>
    intro i ys hd hi hy ht
    refine Ev.step (fun _ => rfl) (ev_pos (by omega) (ev_pos (by omega) (ev_pos (by omega) ?_)))
    rw [wrap_succ (by omega), rd_at (show i < l.length by omega), Int.toNat_natCast]
    exact ih (i + 1) _ (by omega) (by omega) (by simpa using hy) (set_take_succ ys l i (by omega) (by omega) ht)
theorem toByteS_ev (l : List Int) (hl : l.length ≤ 1048576) : Ev (fun k => laws_toByteS.f k l) l := by
  unfold laws_toByteS.f
  refine ev_pos (by omega) (ev_pos (by omega) ?_)
  rw [Int.toNat_natCast]
  exact toByteS_l0 l hl _ 0 _ rfl (by omega) (by simp) (by simp)

/-! ### laws_eqByteS -/
theorem eqByteS_l0 (a b : List Int) (hl : a.length ≤ 9000000000000000000) (hab : a.length = b.length) : ∀ (d i : Nat), a.length - i = d → i ≤ a.length → a.take i = b.take i → Ev (fun k => laws_eqByteS.l0 k a b (i : Int)) (decide (a = b)) := by
  intro d
  induction d with
  | zero =>
    intro i hd hi ht
    refine Ev.step (fun _ => rfl) (ev_neg (by omega) (ev_some ?_))
    rw [List.take_of_length_le (by omega), List.take_of_length_le (by omega)] at ht
    simp [ht]
  | succ d ih =>
    intro i hd hi ht
    refine Ev.step (fun _ => rfl) (ev_pos (by omega) (ev_pos (by omega) (ev_pos (by omega) ?_)))
    have ha : i < a.length := by omega
    have hb : i < b.length := by omega
    rw [rd_at ha, rd_at hb]
    by_cases e : a[i] = b[i]
    · refine ev_pos e ?_
      rw [wrap_succ (by omega)]
      exact ih (i + 1) (by omega) (by omega) (by rw [List.take_succ_eq_append_getElem ha, List.take_succ_eq_append_getElem hb, ht, e])
    · refine ev_neg e (ev_some ?_)
      have : a ≠ b := fun h => e (by subst h; rfl)
      simp [this]
theorem eqByteS_ev (a b : List Int) (hl : a.length ≤ 9000000000000000000) : Ev (fun k => laws_eqByteS.f k a b) (decide (a = b)) := by
  unfold laws_eqByteS.f
  by_cases h : a.length = b.length
  · refine ev_pos (by omega) ?_
    exact eqByteS_l0 a b hl h _ 0 rfl (by omega) (by simp)
  · refine ev_neg (by omega) (ev_some ?_)
    have : a ≠ b := fun e => h (by rw [e])
    simp [this]
theorem eqByteS_same (a : List Int) (hl : a.length ≤ 9000000000000000000) : Ev (fun k => laws_eqByteS.f k a a) true := ev_eq (by simp) (eqByteS_ev a a hl)

/-! ### spec_HexText -/
def hexDigit (n : Int) : Int := if n < 10 then 48 + n else 87 + n
def hexOf (l : List Int) : List Int := l.flatMap fun x => [hexDigit (x / 16), hexDigit (x % 16)]
theorem hexOf_length (l : List Int) : (hexOf l).length = 2 * l.length := by
  induction l with
  | nil => rfl
  | cons x l ih => simp [hexOf] at ih ⊢; omega
theorem hexOf_snoc (l : List Int) (i : Nat) (h : i < l.length) : hexOf (l.take (i + 1)) = hexOf (l.take i) ++ [hexDigit (l[i] / 16), hexDigit (l[i] % 16)] := by
  rw [List.take_succ_eq_append_getElem h]
  unfold hexOf
  rw [List.flatMap_append]
  rfl
theorem l01Hex_eq (n : Int) (h0 : 0 ≤ n) (h1 : n < 16) : spec_l01Hex.f n = some (hexDigit n) := by
  unfold spec_l01Hex.f hexDigit
  rw [wrap_in (by omega) (by omega), wrap_in (by omega) (by omega)]
  by_cases h : n < 10
  · rw [if_pos h, if_pos h]; congr 1; omega
  · rw [if_neg h, if_neg h]; congr 1; omega
theorem spec_hexText_l0 (l : List Int) (hb : Bytes l) (hl : l.length ≤ 1048576) : ∀ (d i : Nat), l.length - i = d → i ≤ l.length → Ev (fun k => spec_HexText.l0 k (hexOf (l.take i)) l (l.length : Int) (i : Int)) (strOfNums (hexOf l)) := by
  intro d
  induction d with
  | zero =>
    intro i hd hi
    refine Ev.step (fun _ => rfl) (ev_neg (by omega) (ev_some ?_))
    rw [List.take_of_length_le (by omega)]
  | succ d ih =>
    intro i hd hi
    have hi' : i < l.length := by omega
    have hv := hb l[i] (List.getElem_mem hi')
    have hlen := hexOf_length (l.take i)
    rw [List.length_take] at hlen
    refine Ev.step (fun _ => rfl) (ev_pos (by omega) (ev_pos (by omega) (ev_pos (by omega) ?_)))
    rw [rd_at hi', wrap_in (n := l[i]) (by omega) (by omega), Int.tdiv_eq_ediv_of_nonneg (by omega), Int.tmod_eq_emod_of_nonneg (by omega), wrap_in (n := l[i] / 16) (by omega) (by omega)]
    refine ev_bind0 (l01Hex_eq (l[i] / 16) (by omega) (by omega)) (ev_bind0 (l01Hex_eq (l[i] % 16) (by omega) (by omega)) (ev_bind0 rfl (ev_pos (by simp; omega) ?_)))
    rw [wrap_succ (by omega), ← hexOf_snoc l i hi']
    exact ih (i + 1) (by omega) (by omega)
theorem spec_hexText (l : List Int) (hb : Bytes l) (hl : l.length ≤ 1048576) : Ev (fun k => spec_HexText.f k l) (strOfNums (hexOf l)) := by
  have := spec_hexText_l0 l hb hl _ 0 rfl (by omega)
  simpa [spec_HexText.f, hexOf] using this

/-! ### impl_HexText -/
def hexDigitI (n : Int) : Int := if n < 10 then 48 + n else 87 + n
def hexOfI (l : List Int) : List Int := l.flatMap fun x => [hexDigitI (x / 16), hexDigitI (x % 16)]
theorem hexOfI_length (l : List Int) : (hexOfI l).length = 2 * l.length := by
  induction l with
  | nil => rfl
  | cons x l ih => simp [hexOfI] at ih ⊢; omega
theorem hexOfI_snoc (l : List Int) (i : Nat) (h : i < l.length) : hexOfI (l.take (i + 1)) = hexOfI (l.take i) ++ [hexDigitI (l[i] / 16), hexDigitI (l[i] % 16)] := by
  rw [List.take_succ_eq_append_getElem h]
  unfold hexOfI
  rw [List.flatMap_append]
  rfl
theorem hexTab (n : Int) (h0 : 0 ≤ n) (h1 : n < 16) : bt (⟨#[48, 49, 50, 51, 52, 53, 54, 55, 56, 57, 97, 98, 99, 100, 101, 102]⟩ : ByteArray) n = hexDigitI n := by
  have hc : n = 0 ∨ n = 1 ∨ n = 2 ∨ n = 3 ∨ n = 4 ∨ n = 5 ∨ n = 6 ∨ n = 7 ∨ n = 8 ∨ n = 9 ∨ n = 10 ∨ n = 11 ∨ n = 12 ∨ n = 13 ∨ n = 14 ∨ n = 15 := by omega
  rcases hc with rfl | rfl | rfl | rfl | rfl | rfl | rfl | rfl | rfl | rfl | rfl | rfl | rfl | rfl | rfl | rfl <;> rfl
theorem impl_hexText_l0 (l : List Int) (hb : Bytes l) (hl : l.length ≤ 1048576) : ∀ (d i : Nat), l.length - i = d → i ≤ l.length → Ev (fun k => impl_HexText.l0 k (hexOfI (l.take i)) l (l.length : Int) (i : Int)) (strOfNums (hexOfI l)) := by
  intro d
  induction d with
  | zero =>
    intro i hd hi
    refine Ev.step (fun _ => rfl) (ev_neg (by omega) (ev_some ?_))
    rw [List.take_of_length_le (by omega)]
  | succ d ih =>
    intro i hd hi
    have hi' : i < l.length := by omega
    have hv := hb l[i] (List.getElem_mem hi')
    have hlen := hexOfI_length (l.take i)
    rw [List.length_take] at hlen
    refine Ev.step (fun _ => rfl) (ev_pos (by omega) (ev_pos (by omega) (ev_pos (by omega) ?_)))
    rw [rd_at hi', u8_and15 _ (by omega) (by omega)]
    refine ev_pos (by omega) (ev_pos (by omega) (ev_pos (by omega) (ev_pos (by omega) ?_)))
    rw [hexTab (l[i] / 16) (by omega) (by omega), hexTab (l[i] % 16) (by omega) (by omega)]
    refine ev_bind0 rfl (ev_pos (by simp; omega) ?_)
    rw [wrap_succ (by omega), ← hexOfI_snoc l i hi']
    exact ih (i + 1) (by omega) (by omega)
theorem impl_hexText (l : List Int) (hb : Bytes l) (hl : l.length ≤ 1048576) : Ev (fun k => impl_HexText.f k l) (strOfNums (hexOfI l)) := by
  have := impl_hexText_l0 l hb hl _ 0 rfl (by omega)
  simpa [impl_HexText.f, hexOfI] using this

theorem FnExactHexText : laws_FnExactHexText.Pure := by
  intro l _ _ hw
  have hb := bytes_of_wf hw
  by_cases h1 : (l.length : Int) > 1048576
  · exact ⟨0, by simp only [laws_FnExactHexText.f, if_pos h1]⟩
  obtain ⟨K1, e1⟩ := toByteS_ev l (by omega)
  obtain ⟨K2, e2⟩ := eqByteS_same l (by omega)
  obtain ⟨K3, e3⟩ := spec_hexText l hb (by omega)
  obtain ⟨K4, e4⟩ := impl_hexText l hb (by omega)
  have e : hexOfI l = hexOf l := rfl
  rw [e] at e4
  refine ⟨K1 + K2 + K3 + K4, ?_⟩
  simp (disch := omega) only [laws_FnExactHexText.f, if_neg h1, e1, e2, e3, e4, Option.bind_some, if_true]

end Go.Proofs.Ytodnajlgjcoodaa.Pure
