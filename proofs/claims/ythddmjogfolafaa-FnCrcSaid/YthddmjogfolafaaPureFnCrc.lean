/- The checksum of a concatenation follows from the checksums of its parts: the law's function answers true for every argument. Conditions: those of the printed statement alone. -/
import Derived.Test.YthddmjogfolafaaQFnCrcx2
import Derived.Test.YthddmjogfolafaaLib
import Derived.Test.YthddmjogfolafaaLibCrc
import Derived.Test.YthddmjogfolafaaLibDraw
set_option linter.unusedVariables false
set_option linter.unusedSimpArgs false
set_option maxRecDepth 4000
namespace Go.Proofs.Ythddmjogfolafaa.Pure
open Go.RowKit Go.Proofs.Ythddmjogfolafaa.QFnCrc Go.Proofs.YthddmjogfolafaaW.PrintWords Go.Proofs.YthddmjogfolafaaW.PrintLast Go.Proofs.YthddmjogfolafaaW.PrintMore Go.Proofs.Ythddmjogfolafaa.Lib

/-! ### impl_steps -/
theorem steps_l0 : ∀ (d i c : Nat), 8 - i = d → i ≤ 8 → c < 4294967296 → Ev (fun k => impl_steps.l0 k (c : Int) (i : Int)) (turns d c : Int) := by
  intro d
  induction d with
  | zero =>
    intro i c hd hi hc
    exact Ev.step (fun _ => rfl) (ev_neg (by omega) (ev_some rfl))
  | succ d ih =>
    intro i c hd hi hc
    refine Ev.step (fun _ => rfl) (ev_pos (by omega) ?_)
    have := ih (i + 1) (turnN c) (by omega) (by omega) (turnN_lt hc)
    rw [and_one c (by omega), wrap_succ (by omega)]
    by_cases e : c % 2 = 1
    · refine ev_pos (by omega) ?_
      have hx := xor_nat (c / 2) 3988292384 (by omega) (by omega)
      rw [show (c : Int) / 2 = ((c / 2 : Nat) : Int) by omega]
      rw [show Go.bits .xor .i64 ((c / 2 : Nat) : Int) 3988292384 = ((c / 2 ^^^ 3988292384 : Nat) : Int) from hx]
      rw [show turnN c = c / 2 ^^^ 3988292384 by unfold turnN; rw [if_pos e]] at this
      simpa only [turns, turnN, if_pos e] using this
    · refine ev_neg (by omega) ?_
      rw [show (c : Int) / 2 = ((c / 2 : Nat) : Int) by omega]
      rw [show turnN c = c / 2 by unfold turnN; rw [if_neg e]] at this
      simpa only [turns, turnN, if_neg e] using this
theorem steps_ev (c : Nat) (h : c < 4294967296) : Ev (fun k => impl_steps.f k (c : Int)) (turns 8 c : Int) := steps_l0 8 0 c rfl (by omega) h

/-! ### impl_CrcMore -/
theorem impl_crcMore_l0 (l : List Int) (hb : Bytes l) (hl : l.length ≤ 4194304) : ∀ (d i c : Nat), l.length - i = d → i ≤ l.length → c < 4294967296 → Ev (fun k => impl_CrcMore.l0 k (c : Int) l (l.length : Int) (i : Int)) ((crcFold c (l.drop i) ^^^ 4294967295 : Nat) : Int) := by
  intro d
  induction d with
  | zero =>
    intro i c hd hi hc
    refine Ev.step (fun _ => rfl) (ev_neg (by omega) (ev_some ?_))
    rw [List.drop_of_length_le (by omega)]
    exact xor_nat c 4294967295 (by omega) (by omega)
  | succ d ih =>
    intro i c hd hi hc
    have hi' : i < l.length := by omega
    have hv := hb l[i] (List.getElem_mem hi')
    obtain ⟨x, hx⟩ := Int.eq_ofNat_of_zero_le hv.1
    refine Ev.step (fun _ => rfl) (ev_pos (by omega) (ev_pos (by omega) (ev_pos (by omega) ?_)))
    rw [rd_at hi', wrap_in (by omega) (by omega), hx, xor_nat c x (by omega) (by omega)]
    have hlt : c ^^^ x < 4294967296 := Nat.xor_lt_two_pow (n := 32) hc (by omega)
    refine Ev.bind (steps_ev _ hlt) ?_
    rw [wrap_succ (by omega), List.drop_eq_getElem_cons hi']
    have := ih (i + 1) (turns 8 (c ^^^ x)) (by omega) (by omega) (turns_lt 8 hlt)
    simpa [crcFold, hx] using this
def crcMoreI (c : Int) (l : List Int) : Int := if 0 ≤ c ∧ c ≤ 4294967295 then (crcMoreN c.toNat l : Int) else 0
theorem impl_crcMore (c : Int) (l : List Int) (hb : Bytes l) (hl : l.length ≤ 4194304) : Ev (fun k => impl_CrcMore.f k c l) (crcMoreI c l) := by
  unfold impl_CrcMore.f crcMoreI impl_isWord.f impl_within.f
  by_cases h0 : 0 ≤ c
  · by_cases h1 : c ≤ 4294967295
    · obtain ⟨m, rfl⟩ := Int.eq_ofNat_of_zero_le h0
      have := impl_crcMore_l0 l hb hl _ 0 (m ^^^ 4294967295) rfl (by omega) (Nat.xor_lt_two_pow (n := 32) (by omega) (by omega))
      have hx := xor_nat m 4294967295 (by omega) (by omega)
      rw [show ((4294967295 : Nat) : Int) = 4294967295 from rfl] at hx
      simpa [h1, hx, crcMoreN] using this
    · simp [h0, h1]; exact Ev.now _
  · simp [h0]; exact Ev.now _

/-! ### spec_MakeBytes -/
theorem l01New_ev (l : List Int) (hl : l.length ≤ 1048576) : ∀ (d i : Nat) (h : Int), l.length - i = d → i ≤ l.length → ∃ h', Ev (fun k => spec_l01New.l0 k l h (i : Int)) (l, 0, h') := by
  intro d
  induction d with
  | zero =>
    intro i h hd hi
    exact ⟨h, Ev.step (fun _ => rfl) (ev_neg (by omega) (Ev.now _))⟩
  | succ d ih =>
    intro i h hd hi
    by_cases h4 : (i : Int) < 4000
    · obtain ⟨h', e⟩ := ih (i + 1) (Go.bits .and .i64 (wrap64 ((wrap64 ((wrap64 (h * 37)) + (wrap64 (rd l i)))) + 7)) 1073741823) (by omega) (by omega)
      refine ⟨h', Ev.step (fun _ => rfl) (ev_pos (by omega) (ev_pos h4 (ev_pos (by omega) ?_)))⟩
      rw [wrap_succ (by omega)]
      exact e
    · exact ⟨h, Ev.step (fun _ => rfl) (ev_pos (by omega) (ev_neg h4 (Ev.now _)))⟩
theorem l01New_some (l : List Int) (hl : l.length ≤ 1048576) : ∃ h, Ev (fun k => spec_l01New.f k l) (l, 0, h) := l01New_ev l hl _ 0 _ rfl (by omega)
/-- A cursor's byte: a byte; the cursor stays in its place or goes on. -/
theorem l01Byte_some (l : List Int) (i h : Int) (hi : 0 ≤ i) (hl : l.length ≤ 1048576) (h1 : i ≤ l.length) : ∃ b i' h', spec_l01Byte.f l i h = some (b, i', h') ∧ 0 ≤ b ∧ b ≤ 255 ∧ 0 ≤ i' ∧ i' ≤ l.length := by
  unfold spec_l01Byte.f
  by_cases h0 : i < (l.length : Int)
  · rw [if_pos h0, if_pos hi, wrap_in (n := i + 1) (by omega) (by omega)]
    exact ⟨_, _, _, rfl, (and255 _).1, (and255 _).2, by omega, by omega⟩
  · rw [if_neg h0]
    exact ⟨_, _, _, rfl, (and255 _).1, (and255 _).2, hi, h1⟩
theorem l01Below_some (l : List Int) (i h n : Int) (hi : 0 ≤ i) (hl : l.length ≤ 1048576) (h1 : i ≤ l.length) : ∃ b i' h', spec_l01Below.f l i h n = some (b, i', h') ∧ 0 ≤ b ∧ (0 < n → b < n) ∧ 0 ≤ i' ∧ i' ≤ l.length := by
  unfold spec_l01Below.f
  by_cases h0 : n ≤ 0
  · rw [if_pos h0]
    exact ⟨_, _, _, rfl, by omega, by omega, hi, h1⟩
  rw [if_neg h0]
  obtain ⟨b, i1, g1, e1, b0, b1, c0, c1⟩ := l01Byte_some l i h hi hl h1
  by_cases h2 : n ≤ 256
  · rw [if_pos h2, e1]
    simp only [Option.bind_some]
    rw [if_neg (by omega), Int.tmod_eq_emod_of_nonneg b0]
    exact ⟨_, _, _, rfl, Int.emod_nonneg _ (by omega), fun _ => Int.emod_lt_of_pos _ (by omega), c0, c1⟩
  · rw [if_neg h2]
    obtain ⟨x, i2, g2, e2, x0, x1, d0, d1⟩ := l01Byte_some l i1 g1 c0 hl c1
    obtain ⟨y, i3, g3, e3, y0, y1, f0, f1⟩ := l01Byte_some l i2 g2 d0 hl d1
    obtain ⟨z, i4, g4, e4, z0, z1, m0, m1⟩ := l01Byte_some l i3 g3 f0 hl f1
    rw [e1]
    simp only [Option.bind_some]
    rw [e2]
    simp only [Option.bind_some]
    rw [e3]
    simp only [Option.bind_some]
    rw [e4]
    simp only [Option.bind_some]
    rw [if_neg (by omega), wrap_in (n := b * 16777216) (by omega) (by omega), wrap_in (n := x * 65536) (by omega) (by omega), wrap_in (n := y * 256) (by omega) (by omega), wrap_in (n := b * 16777216 + x * 65536) (by omega) (by omega), wrap_in (n := b * 16777216 + x * 65536 + y * 256) (by omega) (by omega), wrap_in (by omega) (by omega), Int.tmod_eq_emod_of_nonneg (by omega)]
    exact ⟨_, _, _, rfl, Int.emod_nonneg _ (by omega), fun _ => Int.emod_lt_of_pos _ (by omega), m0, m1⟩

/-! ### spec_MakeBytes2 -/
theorem l01Bytes_l0 (l : List Int) (hl : l.length ≤ 1048576) : ∀ (n : Nat) (acc : List Int) (i h : Int), n ≤ 1048576 → Bytes acc → acc.length + n ≤ 4194304 → 0 ≤ i → i ≤ l.length → ∃ r i' h', Ev (fun k => spec_l01Bytes.l0 k acc (n : Int) l i h) (r, i', h') ∧ Bytes r ∧ r.length = acc.length + n ∧ 0 ≤ i' ∧ i' ≤ l.length := by
  intro n
  induction n with
  | zero =>
    intro acc i h hn hb ha hi h1
    exact ⟨acc, i, h, Ev.step (fun _ => rfl) (ev_neg (by omega) (Ev.now _)), hb, rfl, hi, h1⟩
  | succ n ih =>
    intro acc i h hn hb ha hi h1
    obtain ⟨b, i1, g1, e1, b0, b1, c0, c1⟩ := l01Byte_some l i h hi hl h1
    obtain ⟨r, i', h', e, hr, hlen, d0, d1⟩ := ih (acc ++ [b % 256]) i1 g1 (by omega) (hb.app (Bytes.one (by omega) (by omega))) (by simp; omega) c0 c1
    refine ⟨r, i', h', Ev.step (fun _ => rfl) (ev_pos (by omega) (ev_bind0 e1 (ev_pos (by omega) ?_))), hr, ?_, d0, d1⟩
    · rw [wrap_in (by omega) (by omega), show ((n + 1 : Nat) : Int) - 1 = (n : Int) by omega]
      exact e
    · rw [hlen]
      simp
      omega
theorem l01Bytes_some (l : List Int) (i h n : Int) (hl : l.length ≤ 1048576) (h0 : 0 ≤ n) (hn : n ≤ 1000) (hi : 0 ≤ i) (h1 : i ≤ l.length) : ∃ r i' h', Ev (fun k => spec_l01Bytes.f k l i h n) (r, i', h') ∧ Bytes r ∧ r.length ≤ n ∧ 0 ≤ i' ∧ i' ≤ l.length := by
  obtain ⟨b, i1, g1, e1, b0, b1, c0, c1⟩ := l01Below_some l i h (n + 1) hi hl h1
  obtain ⟨m, rfl⟩ := Int.eq_ofNat_of_zero_le b0
  have bm := b1 (by omega)
  obtain ⟨r, i', h', e, hr, hlen, d0, d1⟩ := l01Bytes_l0 l hl m [] i1 g1 (by omega) Bytes.nil (by simp; omega) c0 c1
  refine ⟨r, i', h', ?_, hr, by rw [hlen]; simp; omega, d0, d1⟩
  unfold spec_l01Bytes.f
  rw [wrap_in (by omega) (by omega)]
  exact ev_bind0 e1 e

/-! ### spec_MakeBytes3 -/
theorem makeBytes_some (l : List Int) (n : Int) (hl : l.length ≤ 1048576) (h0 : 0 ≤ n) (hn : n ≤ 1000) : ∃ r, Ev (fun k => spec_MakeBytes.f k l n) r ∧ Bytes r ∧ r.length ≤ n := by
  obtain ⟨h, e⟩ := l01New_some l hl
  obtain ⟨r, i', h', e2, hr, hlen, _, _⟩ := l01Bytes_some l 0 (wrap64 (h + n)) n hl h0 hn (by omega) (by omega)
  exact ⟨r, Ev.bind e (Ev.bind e2 (Ev.now _)), hr, hlen⟩

/-! ### impl_CrcShift -/
theorem impl_crcShift_l0 (n : Nat) (hn : n ≤ 8192) : ∀ (d i c : Nat), n - i = d → i ≤ n → c < 4294967296 → Ev (fun k => impl_CrcShift.l0 k (c : Int) (n : Int) (i : Int)) (turns (8 * d) c : Int) := by
  intro d
  induction d with
  | zero =>
    intro i c hd hi hc
    exact Ev.step (fun _ => rfl) (ev_neg (by omega) (ev_some rfl))
  | succ d ih =>
    intro i c hd hi hc
    refine Ev.step (fun _ => rfl) (ev_pos (by omega) (Ev.bind (steps_ev c hc) ?_))
    rw [wrap_succ (by omega), show 8 * (d + 1) = 8 + 8 * d by omega, turns_add]
    exact ih (i + 1) (turns 8 c) (by omega) (by omega) (turns_lt 8 hc)
def crcShiftI (c n : Int) : Int := if (0 ≤ c ∧ c ≤ 4294967295) ∧ 0 ≤ n ∧ n ≤ 8192 then (turns (8 * n.toNat) c.toNat : Int) else 0
theorem impl_crcShift (c n : Int) : Ev (fun k => impl_CrcShift.f k c n) (crcShiftI c n) := by
  unfold impl_CrcShift.f crcShiftI impl_isWord.f impl_within.f
  have no : Ev (fun k => impl_CrcShift.j0 k c n true) 0 := Ev.step (f := fun _ => some 0) (fun _ => by simp only [impl_CrcShift.j0, if_true]) (Ev.now _)
  by_cases h0 : 0 ≤ c
  · by_cases h1 : c ≤ 4294967295
    · by_cases h2 : 0 ≤ n
      · by_cases h3 : n ≤ 8192
        · obtain ⟨m, rfl⟩ := Int.eq_ofNat_of_zero_le h0
          obtain ⟨j, rfl⟩ := Int.eq_ofNat_of_zero_le h2
          have yes : Ev (fun k => impl_CrcShift.j0 k (m : Int) (j : Int) false) (turns (8 * j) m : Int) :=
            Ev.step (f := fun k => impl_CrcShift.l0 k (m : Int) (j : Int) 0) (fun _ => by simp only [impl_CrcShift.j0, Bool.false_eq_true, if_false]) (impl_crcShift_l0 j (by omega) j 0 m (by omega) (by omega) (by omega))
          simpa [h0, h1, h2, h3] using yes
        · simpa [h0, h1, h2, h3] using no
      · simpa [h0, h1, h2] using no
    · simpa [h0, h1] using no
  · simpa [h0] using no

attribute [local congr] bind_lazy ite_lazy
theorem crc0 (l : List Int) (hb : Bytes l) (hl : l.length ≤ 4194304) : Ev (fun k => impl_Crc.f k l) (crcMoreN 0 l : Int) := by
  have := impl_crcMore 0 l hb hl
  have e : crcMoreI 0 l = (crcMoreN 0 l : Int) := by simp [crcMoreI]
  rw [e] at this
  exact Ev.bind this (Ev.now _)
theorem crcM (c : Nat) (hc : c < 4294967296) (l : List Int) (hb : Bytes l) (hl : l.length ≤ 4194304) : Ev (fun k => impl_CrcMore.f k (c : Int) l) (crcMoreN c l : Int) := by
  have := impl_crcMore c l hb hl
  have e : crcMoreI (c : Int) l = (crcMoreN c l : Int) := by
    unfold crcMoreI
    rw [if_pos (by omega), Int.toNat_natCast]
  rw [e] at this
  exact this
theorem shift0 (c n : Nat) (hc : c < 4294967296) (hn : n ≤ 8192) : Ev (fun k => impl_CrcShift.f k (c : Int) (n : Int)) (turns (8 * n) c : Int) := by
  have := impl_crcShift c n
  have e : crcShiftI (c : Int) (n : Int) = (turns (8 * n) c : Int) := by
    unfold crcShiftI
    rw [if_pos (by omega), Int.toNat_natCast, Int.toNat_natCast]
  rw [e] at this
  exact this
theorem join0 (a b n : Nat) (ha : a < 4294967296) (hb : b < 4294967296) (hn : n ≤ 8192) : Ev (fun k => impl_CrcJoin.f k (a : Int) (b : Int) (n : Int)) ((turns (8 * n) a ^^^ b : Nat) : Int) := by
  have w : ∀ x : Nat, x < 4294967296 → impl_isWord.f (x : Int) = some true := fun x hx => by
    unfold impl_isWord.f impl_within.f
    rw [if_pos (by omega), decide_eq_true (by omega)]
    rfl
  have v : impl_within.f (n : Int) 0 8192 = some true := by
    unfold impl_within.f
    rw [if_pos (by omega), decide_eq_true (by omega)]
  have ht := turns_lt (8 * n) ha
  exact ev_bind0 (w a ha) (ev_pos rfl (ev_bind0 (w b hb) (ev_pos rfl (ev_bind0 v (ev_pos rfl (Ev.bind (shift0 a n ha hn) (ev_some (xor_nat _ _ (by omega) (by omega)))))))))
theorem nine : crcMoreN 0 [49, 50, 51, 52, 53, 54, 55, 56, 57] = 3421780262 := by decide +kernel
theorem one : turns (8 * 1) 1 = 1996959894 := by decide +kernel
theorem FnCrc : laws_FnCrc.Pure := by
  intro l _ _ _
  by_cases g : (l.length : Int) > 1048576
  · exact ⟨0, by simp only [laws_FnCrc.f, if_pos g]⟩
  obtain ⟨a, e1, ha, hal⟩ := makeBytes_some l 20 (by omega) (by omega) (by omega)
  obtain ⟨b, e2, hb, hbl⟩ := makeBytes_some l 13 (by omega) (by omega) (by omega)
  have hlen : (a ++ b).length = a.length + b.length := by simp
  have c1 := crc0 (a ++ b) (ha.app hb) (by omega)
  have c2 := crc0 [49, 50, 51, 52, 53, 54, 55, 56, 57] (by intro x hx; simp at hx; omega) (by decide)
  rw [nine] at c2
  have s1 := shift0 1 1 (by omega) (by omega)
  rw [one] at s1
  have k0 : (0 : Nat) < 4294967296 := by omega
  have m1 := crcMoreN_lt ha k0
  have m2 := crcMoreN_lt hb k0
  have m3 := crcMoreN_lt (ha.app hb) k0
  have d1 := crc0 a ha (by omega)
  have d2 := crc0 b hb (by omega)
  have d3 := crcM (crcMoreN 0 a) m1 b hb (by omega)
  rw [crc_more] at d3
  have d4 := join0 (crcMoreN 0 a) (crcMoreN 0 b) b.length m1 m2 (by omega)
  rw [crc_join] at d4
  have f1 := shift0 (crcMoreN 0 (a ++ b)) 3 m3 (by omega)
  have f2 := shift0 (turns (8 * 3) (crcMoreN 0 (a ++ b))) 4 (turns_lt _ m3) (by omega)
  rw [← turns_add] at f2
  have f3 := shift0 (crcMoreN 0 (a ++ b)) 7 m3 (by omega)
  refine Ev.rounds (g := fun k => laws_FnCrc.f k l) (r := true) ?_
  unfold laws_FnCrc.f
  refine ev_neg g (Ev.bind e1 (Ev.bind e2 (ev_bind0 rfl (ev_pos (by simp; omega) (ev_bind0 rfl (ev_pos (by simp only [List.nil_append]; omega) (Ev.bind c1 (Ev.bind c2 (ev_pos rfl (Ev.bind s1 ?_))))))))))
  refine Ev.step (f := fun k => (impl_Crc.f k a).bind fun t174 => ((impl_CrcMore.f k t174 b).bind fun t175 => (if t175 = ((crcMoreN 0 (a ++ b) : Nat) : Int) then ((impl_Crc.f k a).bind fun t176 => ((impl_Crc.f k b).bind fun t177 => ((impl_CrcJoin.f k t176 t177 (b.length : Int)).bind fun t178 => (if t178 = ((crcMoreN 0 (a ++ b) : Nat) : Int) then ((impl_CrcShift.f k ((crcMoreN 0 (a ++ b) : Nat) : Int) 3).bind fun t179 => ((impl_CrcShift.f k t179 4).bind fun t180 => ((impl_CrcShift.f k ((crcMoreN 0 (a ++ b) : Nat) : Int) 7).bind fun t181 => (some (t180 == t181))))) else (some false))))) else (some false)))) (fun k => ?_) ?_
  · have e : (((1996959894 : Nat) : Int) != 1996959894) = false := rfl
    rw [e]
    simp only [laws_FnCrc.j0, Bool.false_eq_true, if_false]
  · exact Ev.bind d1 (Ev.bind d3 (ev_pos rfl (Ev.bind d1 (Ev.bind d2 (Ev.bind d4 (ev_pos rfl (Ev.bind f1 (Ev.bind f2 (Ev.bind f3 (ev_some (by simp)))))))))))

end Go.Proofs.Ythddmjogfolafaa.Pure
