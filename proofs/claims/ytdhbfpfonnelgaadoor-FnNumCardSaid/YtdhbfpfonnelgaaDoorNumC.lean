/- The number of a text, as a plain function: what both functions come to. No conditions but those typed. -/
import Derived.Test.YtdhbfpfonnelgaaDoorNumA
import Derived.Lib.AtoiAllCases
import Derived.Lib.AtoiErrMem
namespace Go.Proofs.YtdhbfpfonnelgaaDoor.NumBase
open Go.RowKit Go.Proofs.YtdhbfpfonnelgaaDoorW.PrintWords Go.Proofs.YtdhbfpfonnelgaaDoorW.PrintLast Go.Proofs.YtdhbfpfonnelgaaDoorW.PrintMore Go.Proofs.YtdhbfpfonnelgaaDoor.Lib
set_option linter.unusedVariables false
set_option linter.unusedSimpArgs false
theorem dec_char {d : Nat} (h : d < 10) : (UInt8.ofNat (48 + d)).toNat = 48 + d := by
  simp [UInt8.toNat_ofNat']
  omega
theorem dec_length : ∀ (m n : Nat), 1 ≤ m → n < 10 ^ m → 1 ≤ (Go.Lib.decDigits n).length ∧ (Go.Lib.decDigits n).length ≤ m := by
  intro m
  induction m with
  | zero => intro n h; omega
  | succ m ih =>
    intro n h hn
    by_cases hs : n < 10
    · rw [dec_small hs]
      simp
    · have hm : 1 ≤ m := by
        rcases Nat.eq_zero_or_pos m with h0 | h0
        · subst h0
          omega
        · exact h0
      obtain ⟨h1, h2⟩ := ih (n / 10) hm (by rw [Nat.pow_succ] at hn; omega)
      rw [dec_big hs]
      simp
      omega
/-- What Atoi reads of a number's digits. -/
theorem parse_dec (n : Nat) (r : List UInt8) (hn : n ≤ 1152921504606846975) : Go.Lib.parseUint10 0 (Go.Lib.decDigits n ++ r) = Go.Lib.parseUint10 n r := by
  induction n using Nat.strongRecOn generalizing r with
  | ind n ih =>
    by_cases hs : n < 10
    · rw [dec_small hs]
      have hc := dec_char hs
      simp only [List.singleton_append, Go.Lib.parseUint10, hc]
      rw [if_pos (by omega), if_neg (by omega), if_neg (by omega)]
      congr 1
      omega
    · rw [dec_big hs, List.append_assoc, ih (n / 10) (by omega) _ (by omega)]
      have hc := dec_char (d := n % 10) (by omega)
      simp only [List.singleton_append, Go.Lib.parseUint10, hc]
      rw [if_pos (by omega), if_neg (by omega), if_neg (by omega)]
      congr 1
      omega
theorem dec_head (n : Nat) : ∃ c r, Go.Lib.decDigits n = c :: r ∧ 48 ≤ c.toNat ∧ c.toNat ≤ 57 := by
  induction n using Nat.strongRecOn with
  | ind n ih =>
    by_cases hs : n < 10
    · rw [dec_small hs]
      have hc := dec_char hs
      exact ⟨_, _, rfl, by omega, by omega⟩
    · rw [dec_big hs]
      obtain ⟨c, r, e, h1, h2⟩ := ih (n / 10) (by omega)
      rw [e]
      exact ⟨c, _, rfl, h1, h2⟩
theorem atoi_dec (n : Nat) (hn : n ≤ 1152921504606846975) : Go.Lib.atoiAll (Go.Lib.decDigits n) = .ok (n : Int) := by
  obtain ⟨c, r, e, h1, h2⟩ := dec_head n
  have hp := parse_dec n [] hn
  rw [List.append_nil] at hp
  rw [e, Go.Lib.atoiAll_plain c r (by omega) (by omega), ← e]
  have hm : Go.Lib.parseMag (Go.Lib.decDigits n) = .ok n := by
    unfold Go.Lib.parseMag
    rw [if_neg (by rw [e]; simp), hp]
    rfl
  rw [hm]
  simp only [Go.Lib.signless]
  rw [if_neg (by omega)]
/-- Whether a text is a number's text. -/
def IsNumText (s : ByteArray) (n : Nat) : Prop := n ≤ 1152921504606846975 ∧ s = decText n
theorem bt_of {s : ByteArray} {l r : List UInt8} {c : UInt8} (h : s.data.toList = l ++ c :: r) : bt s (l.length : Int) = (c.toNat : Int) ∧ l.length < s.size := by
  have hl : l.length < s.size := by rw [size_toList, h]; simp
  refine ⟨?_, hl⟩
  rw [← bt_at s (l.length : Int) (by simpa using hl)]
  have e : s[l.length] = s.data.toList[l.length]'(by rw [← size_toList]; exact hl) := rfl
  simp only [Int.toNat_natCast]
  rw [e]
  simp [h]
theorem spec_step (s : ByteArray) (m : Nat) (l r : List UInt8) (d : Nat) (R : Int × Bool) (hd : d < 10) (h : s.data.toList = l ++ UInt8.ofNat (48 + d) :: r) (hm : m * 10 + d ≤ 1152921504606846975) (hl : l.length ≤ 1000)
    (hE : Ev (fun k => spec_TextNum.l0 k s ((m * 10 + d : Nat) : Int) ((l.length + 1 : Nat) : Int)) R) : Ev (fun k => spec_TextNum.l0 k s (m : Int) (l.length : Int)) R := by
  obtain ⟨hb, hlt⟩ := bt_of h
  rw [dec_char hd] at hb
  refine Ev.step (fun _ => rfl) (ev_pos (by omega) (ev_pos (by omega) ?_))
  rw [hb]
  have e1 : wrap64 (wrap64 ((48 + d : Nat) : Int) - 48) = (d : Int) := by unfold wrap64; omega
  rw [e1]
  have e2 : wrap64 (Int.tdiv (wrap64 (1152921504606846975 - (d : Int))) 10) = (1152921504606846975 - (d : Int)) / 10 := by
    rw [wrap_in (n := 1152921504606846975 - (d : Int)) (by omega) (by omega), Int.tdiv_eq_ediv_of_nonneg (by omega), wrap_in (by omega) (by omega)]
  rw [e2]
  have e3 : wrap64 (wrap64 ((m : Int) * 10) + (d : Int)) = ((m * 10 + d : Nat) : Int) := by rw [wrap_in (n := (m : Int) * 10) (by omega) (by omega), wrap_in (by omega) (by omega)]; omega
  rw [e3, wrap_succ (by omega)]
  exact ev_neg (by omega) (ev_neg (by omega) (ev_neg (by omega) hE))
theorem spec_dec (s : ByteArray) (R : Int × Bool) (n : Nat) : ∀ r : List UInt8, n ≤ 1152921504606846975 → s.data.toList = Go.Lib.decDigits n ++ r → Ev (fun k => spec_TextNum.l0 k s (n : Int) ((Go.Lib.decDigits n).length : Int)) R → Ev (fun k => spec_TextNum.l0 k s 0 0) R := by
  induction n using Nat.strongRecOn with
  | ind n ih =>
    intro r hn h hE
    by_cases hs : n < 10
    · rw [dec_small hs] at h hE
      have := spec_step s 0 [] r n R hs (by simpa using h) (by omega) (by simp) (by simpa using hE)
      simpa using this
    · have hlen := dec_length 19 (n / 10) (by omega) (by omega)
      rw [dec_big hs, List.append_assoc] at h
      rw [dec_big hs, List.length_append, List.length_singleton] at hE
      refine ih (n / 10) (by omega) _ (by omega) h ?_
      have e : n / 10 * 10 + n % 10 = n := by omega
      refine spec_step s (n / 10) (Go.Lib.decDigits (n / 10)) r (n % 10) R (by omega) h (by omega) (by omega) ?_
      rw [e]
      exact hE
theorem numText_nat {n : Nat} (h : n ≤ 1152921504606846975) : numText (n : Int) = decText n := by
  unfold numText
  rw [if_pos ⟨by omega, by omega⟩, Int.toNat_natCast]
theorem spec_yes (s : ByteArray) (n : Nat) (h : IsNumText s n) : Ev (fun k => spec_TextNum.f k s) ((n : Int), true) := by
  obtain ⟨hn, rfl⟩ := h
  have hlen := dec_length 19 n (by omega) (by omega)
  have hd : (decText n).data.toList = Go.Lib.decDigits n := by simp [decText]
  have hsz : (decText n).size = (Go.Lib.decDigits n).length := by rw [size_toList, hd]
  have main : Ev (fun k => spec_TextNum.l0 k (decText n) 0 0) ((n : Int), true) := by
    refine spec_dec (decText n) _ n [] hn (by rw [hd, List.append_nil]) ?_
    refine Ev.step (fun _ => rfl) (ev_neg (by omega) ?_)
    refine Ev.bind (spec_numText (n : Int)) ?_
    rw [numText_nat hn]
    exact ev_pos rfl (Ev.now _)
  unfold spec_TextNum.f
  refine ev_neg (by omega) ?_
  exact Ev.step (f := fun k => spec_TextNum.l0 k (decText n) 0 0) (fun _ => by simp only [spec_TextNum.j0]; rw [if_neg (by simp; omega)]) main
theorem toList_inj {a b : ByteArray} (h : a.toList = b.toList) : a = b := by
  apply ba_ext
  simpa [ByteArray.toList_eq] using h
theorem spec_no_l0 (s : ByteArray) (hs : s.size ≤ 1000) (hno : ∀ n, ¬ IsNumText s n) : ∀ (d i : Nat) (x : Int), i + d = s.size → 0 ≤ x → x ≤ 1152921504606846975 → Ev (fun k => spec_TextNum.l0 k s x (i : Int)) (0, false) := by
  intro d
  induction d with
  | zero =>
    intro i x hi h0 h1
    refine Ev.step (fun _ => rfl) (ev_neg (by omega) (Ev.bind (spec_numText x) (ev_neg ?_ (Ev.now _))))
    intro h
    obtain ⟨m, rfl⟩ := Int.eq_ofNat_of_zero_le h0
    rw [numText_nat (by omega)] at h
    exact hno m ⟨by omega, (toList_inj h).symm⟩
  | succ d ih =>
    intro i x hi h0 h1
    have hb := bt_range s (i : Int)
    refine Ev.step (fun _ => rfl) (ev_pos (by omega) (ev_pos (by omega) ?_))
    have e1 : wrap64 (wrap64 (bt s (i : Int)) - 48) = bt s (i : Int) - 48 := by unfold wrap64; omega
    rw [e1]
    by_cases h2 : bt s (i : Int) - 48 < 0
    · exact ev_pos h2 (Ev.now _)
    by_cases h3 : bt s (i : Int) - 48 > 9
    · exact ev_neg h2 (ev_pos h3 (Ev.now _))
    have e2 : wrap64 (Int.tdiv (wrap64 (1152921504606846975 - (bt s (i : Int) - 48))) 10) = (1152921504606846975 - (bt s (i : Int) - 48)) / 10 := by
      rw [wrap_in (n := 1152921504606846975 - (bt s (i : Int) - 48)) (by omega) (by omega), Int.tdiv_eq_ediv_of_nonneg (by omega), wrap_in (by omega) (by omega)]
    rw [e2]
    by_cases h4 : x > (1152921504606846975 - (bt s (i : Int) - 48)) / 10
    · exact ev_neg h2 (ev_neg h3 (ev_pos h4 (Ev.now _)))
    refine ev_neg h2 (ev_neg h3 (ev_neg h4 ?_))
    rw [wrap_in (n := x * 10) (by omega) (by omega), wrap_in (n := x * 10 + _) (by omega) (by omega), wrap_succ (by omega)]
    exact ih (i + 1) _ (by omega) (by omega) (by omega)
theorem spec_no (s : ByteArray) (hno : ∀ n, ¬ IsNumText s n) : Ev (fun k => spec_TextNum.f k s) (0, false) := by
  unfold spec_TextNum.f
  by_cases h0 : (s.size : Int) = 0
  · exact ev_pos h0 (Ev.step (f := fun _ => some (0, false)) (fun _ => by simp only [spec_TextNum.j0, if_true]) (Ev.now _))
  refine ev_neg h0 ?_
  by_cases h1 : (s.size : Int) > 19
  · exact Ev.step (f := fun _ => some (0, false)) (fun _ => by simp only [spec_TextNum.j0]; rw [if_pos (decide_eq_true h1)]) (Ev.now _)
  · refine Ev.step (f := fun k => spec_TextNum.l0 k s 0 0) (fun _ => by simp only [spec_TextNum.j0]; rw [if_neg (by simpa using h1)]) ?_
    exact spec_no_l0 s (by omega) hno s.size 0 0 (by omega) (by omega) (by omega)
end Go.Proofs.YtdhbfpfonnelgaaDoor.NumBase
