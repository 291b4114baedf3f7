/- The checksum's step as a plain function on natural numbers, its linearity and that it loses nothing. No conditions but those typed. -/
import Derived.Test.YthddmjogfolafaaLib
set_option linter.unusedVariables false
set_option linter.unusedSimpArgs false
namespace Go.Proofs.Ythddmjogfolafaa.Lib
open Go.RowKit Go.Proofs.YthddmjogfolafaaW.PrintWords Go.Proofs.YthddmjogfolafaaW.PrintLast Go.Proofs.YthddmjogfolafaaW.PrintMore

theorem nat_cast_bits (k : IntKind) (a : Nat) (h : a < 2 ^ k.bits) : (BitVec.ofInt k.bits (a : Int)).toNat = a := by
  simp only [BitVec.ofInt_natCast, BitVec.toNat_ofNat]
  exact Nat.mod_eq_of_lt h
theorem xor_nat (a b : Nat) (ha : a < 2 ^ 63) (hb : b < 2 ^ 63) : Go.bits .xor .i64 (a : Int) (b : Int) = ((a ^^^ b : Nat) : Int) := by
  have h1 := nat_cast_bits .i64 a (by simp only [IntKind.bits]; omega)
  have h2 := nat_cast_bits .i64 b (by simp only [IntKind.bits]; omega)
  have h3 : a ^^^ b < 2 ^ 63 := Nat.xor_lt_two_pow ha hb
  simp only [Go.bits, BitVec.toNat_xor, h1, h2]
  rw [IntKind.wrap_i64]
  omega
theorem and_one (a : Nat) (ha : a < 2 ^ 63) : Go.bits .and .i64 (a : Int) 1 = ((a % 2 : Nat) : Int) := by
  have h := (bits_nat .i64 63 (by decide) (fun n h0 h1 => by rw [IntKind.wrap_i64]; omega) a 1 ha (by omega)).1
  simp only [Nat.and_one_is_mod] at h
  exact_mod_cast h
def turnN (c : Nat) : Nat := if c % 2 = 1 then (c / 2) ^^^ 3988292384 else c / 2
theorem turnN_lt {c : Nat} (h : c < 4294967296) : turnN c < 4294967296 := by
  unfold turnN
  split
  · exact Nat.xor_lt_two_pow (n := 32) (by omega) (by omega)
  · omega
def turns : Nat → Nat → Nat
  | 0, c => c
  | n + 1, c => turns n (turnN c)
theorem turns_lt : ∀ (n : Nat) {c : Nat}, c < 4294967296 → turns n c < 4294967296
  | 0, _, h => h
  | n + 1, _, h => turns_lt n (turnN_lt h)
theorem turns_add : ∀ (a b c : Nat), turns (a + b) c = turns b (turns a c)
  | 0, b, c => by simp [turns]
  | a + 1, b, c => by
    rw [show a + 1 + b = (a + b) + 1 by omega]
    exact turns_add a b (turnN c)
def crcFold (c : Nat) (l : List Int) : Nat := l.foldl (fun c x => turns 8 (c ^^^ x.toNat)) c
theorem byte_xor_lt {c : Nat} {x : Int} (hc : c < 4294967296) (h1 : x ≤ 255) : c ^^^ x.toNat < 4294967296 := Nat.xor_lt_two_pow (n := 32) hc (by omega)
theorem crcFold_lt : ∀ (l : List Int) (c : Nat), Bytes l → c < 4294967296 → crcFold c l < 4294967296
  | [], _, _, h => h
  | x :: l, c, hb, h => crcFold_lt l _ (fun y hy => hb y (List.mem_cons_of_mem _ hy)) (turns_lt 8 (byte_xor_lt h (hb x (by simp)).2))
theorem crcFold_app (c : Nat) (a b : List Int) : crcFold c (a ++ b) = crcFold (crcFold c a) b := by simp [crcFold]
def crcMoreN (c : Nat) (l : List Int) : Nat := crcFold (c ^^^ 4294967295) l ^^^ 4294967295
theorem crcMoreN_lt {c : Nat} {l : List Int} (hb : Bytes l) (h : c < 4294967296) : crcMoreN c l < 4294967296 :=
  Nat.xor_lt_two_pow (n := 32) (crcFold_lt l _ hb (Nat.xor_lt_two_pow (n := 32) h (by omega))) (by omega)

/-! ### linear, and loses nothing -/
theorem xor_mod2 (a b : Nat) : (a ^^^ b) % 2 = (a % 2 + b % 2) % 2 := by
  have h := Nat.xor_mod_two_pow (a := a) (b := b) (n := 1)
  simp only [Nat.pow_one] at h
  rw [h]
  rcases Nat.mod_two_eq_zero_or_one a with ha | ha <;> rcases Nat.mod_two_eq_zero_or_one b with hb | hb <;> simp [ha, hb]
theorem xor_rc (a b c : Nat) : a ^^^ b ^^^ c = a ^^^ c ^^^ b := by rw [Nat.xor_assoc, Nat.xor_comm b c, ← Nat.xor_assoc]
theorem turnN_xor (a b : Nat) : turnN (a ^^^ b) = turnN a ^^^ turnN b := by
  unfold turnN
  rw [xor_mod2, Nat.xor_div_two]
  rcases Nat.mod_two_eq_zero_or_one a with ha | ha <;> rcases Nat.mod_two_eq_zero_or_one b with hb | hb <;> simp only [ha, hb] <;> simp
  · rw [Nat.xor_assoc]
  · rw [xor_rc]
  · rw [show a / 2 ^^^ 3988292384 ^^^ (b / 2 ^^^ 3988292384) = a / 2 ^^^ b / 2 ^^^ (3988292384 ^^^ 3988292384) by
      rw [← Nat.xor_assoc, xor_rc (a / 2) 3988292384 (b / 2), Nat.xor_assoc (a / 2 ^^^ b / 2)]]
    simp
theorem turns_xor : ∀ (n a b : Nat), turns n (a ^^^ b) = turns n a ^^^ turns n b
  | 0, _, _ => rfl
  | n + 1, a, b => by
    show turns n (turnN (a ^^^ b)) = _
    rw [turnN_xor, turns_xor n]
    rfl
theorem crcFold_xor : ∀ (l : List Int) (c d : Nat), crcFold (c ^^^ d) l = crcFold c l ^^^ turns (8 * l.length) d
  | [], _, _ => rfl
  | x :: l, c, d => by
    show crcFold (turns 8 (c ^^^ d ^^^ x.toNat)) l = crcFold (turns 8 (c ^^^ x.toNat)) l ^^^ _
    rw [xor_rc, turns_xor, crcFold_xor l, ← turns_add]
    congr 2
    simp
    omega
theorem turnN_zero {c : Nat} (hc : c < 4294967296) (h : turnN c = 0) : c = 0 := by
  unfold turnN at h
  split at h
  · have : (c / 2 ^^^ 3988292384).testBit 31 = true := by
      rw [Nat.testBit_xor, Nat.testBit_lt_two_pow (show c / 2 < 2 ^ 31 by omega)]
      decide
    rw [h] at this
    simp at this
  · omega
theorem turns_zero : ∀ (n : Nat) {c : Nat}, c < 4294967296 → turns n c = 0 → c = 0
  | 0, _, _, h => h
  | n + 1, c, hc, h => turnN_zero hc (turns_zero n (turnN_lt hc) h)
theorem turns_inj {n a b : Nat} (ha : a < 4294967296) (hb : b < 4294967296) (h : turns n a = turns n b) : a = b := by
  have : turns n (a ^^^ b) = 0 := by rw [turns_xor, h, Nat.xor_self]
  have h0 := turns_zero n (Nat.xor_lt_two_pow (n := 32) ha hb) this
  have h1 : a ^^^ b ^^^ b = 0 ^^^ b := by rw [h0]
  simpa [Nat.xor_assoc] using h1
theorem xor_left_inj {a b c : Nat} (h : a ^^^ c = b ^^^ c) : a = b := by
  have : (a ^^^ c) ^^^ c = (b ^^^ c) ^^^ c := by rw [h]
  simpa [Nat.xor_assoc] using this
theorem xor_right_inj {a b c : Nat} (h : c ^^^ a = c ^^^ b) : a = b := by
  rw [Nat.xor_comm c a, Nat.xor_comm c b] at h
  exact xor_left_inj h
theorem crcFold_inj : ∀ (l : List Int) {a b : Nat}, Bytes l → a < 4294967296 → b < 4294967296 → crcFold a l = crcFold b l → a = b
  | [], _, _, _, _, _, h => h
  | x :: l, a, b, hb, h1, h2, h => by
    have hx := (hb x (by simp)).2
    have := crcFold_inj l (fun y hy => hb y (List.mem_cons_of_mem _ hy)) (turns_lt 8 (byte_xor_lt h1 hx)) (turns_lt 8 (byte_xor_lt h2 hx)) h
    exact xor_left_inj (turns_inj (byte_xor_lt h1 hx) (byte_xor_lt h2 hx) this)
/-- One byte that is another one: another sum. -/
theorem crc_flip (p q : List Int) (x y : Int) (hp : Bytes p) (hq : Bytes q) (hx : 0 ≤ x ∧ x ≤ 255) (hy : 0 ≤ y ∧ y ≤ 255) (hne : x ≠ y) : crcMoreN 0 (p ++ x :: q) ≠ crcMoreN 0 (p ++ y :: q) := by
  intro h
  have h := xor_left_inj h
  rw [crcFold_app, crcFold_app] at h
  have hc : crcFold (0 ^^^ 4294967295) p < 4294967296 := crcFold_lt p _ hp (by decide)
  have := crcFold_inj q hq (turns_lt 8 (byte_xor_lt hc hx.2)) (turns_lt 8 (byte_xor_lt hc hy.2)) h
  have := xor_right_inj (turns_inj (byte_xor_lt hc hx.2) (byte_xor_lt hc hy.2) this)
  omega
theorem crc_join (a b : List Int) : turns (8 * b.length) (crcMoreN 0 a) ^^^ crcMoreN 0 b = crcMoreN 0 (a ++ b) := by
  unfold crcMoreN
  rw [crcFold_app]
  have e : crcFold (0 ^^^ 4294967295) a = (0 ^^^ 4294967295) ^^^ (crcFold (0 ^^^ 4294967295) a ^^^ 4294967295) := by
    rw [Nat.xor_comm (crcFold _ a), ← Nat.xor_assoc]
    simp
  conv => rhs; rw [e, crcFold_xor]
  rw [Nat.xor_comm, xor_rc]
theorem crc_more (a b : List Int) : crcMoreN (crcMoreN 0 a) b = crcMoreN 0 (a ++ b) := by
  unfold crcMoreN
  rw [crcFold_app, Nat.xor_assoc (crcFold _ a)]
  simp
end Go.Proofs.Ythddmjogfolafaa.Lib
