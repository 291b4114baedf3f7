/- Numbers of a fixed width, least byte first, as plain functions. No conditions but those typed. -/
import Derived.Test.YtjfhbmbiegccnaaLib
set_option linter.unusedVariables false
set_option linter.unusedSimpArgs false
namespace Go.Proofs.Ytjfhbmbiegccnaa.Lib
open Go.RowKit Go.Proofs.YtjfhbmbiegccnaaW.PrintWords Go.Proofs.YtjfhbmbiegccnaaW.PrintLast Go.Proofs.YtjfhbmbiegccnaaW.PrintMore

def digs (n : Nat) : Nat → List Int
 | 0 => []
 | w + 1 => ((n % 256 : Nat) : Int) :: digs (n / 256) w
def leVal : List Int → Int
 | [] => 0
 | x :: l => x + 256 * leVal l
theorem digs_length : ∀ (w n : Nat), (digs n w).length = w
 | 0, _ => rfl
 | w + 1, n => by simp [digs, digs_length w]
theorem digs_bytes : ∀ (w n : Nat), Bytes (digs n w)
 | 0, _ => Bytes.nil
 | w + 1, n => Bytes.cons (by omega) (by omega) (digs_bytes w _)
theorem leVal_bytes : ∀ (w n : Nat), leVal (digs n w) = ((n % 256 ^ w : Nat) : Int)
 | 0, n => by simp [digs, leVal, Nat.mod_one]
 | w + 1, n => by
  simp only [digs, leVal, leVal_bytes w]
  have : n % 256 ^ (w + 1) = n % 256 + 256 * (n / 256 % 256 ^ w) := by
   rw [Nat.pow_succ, Nat.mul_comm, Nat.mod_mul]
  rw [this]
  omega
theorem digs_snoc : ∀ (w n : Nat), digs n (w + 1) = digs n w ++ [((n / 256 ^ w % 256 : Nat) : Int)]
 | 0, n => by simp [digs]
 | w + 1, n => by
  rw [digs, digs_snoc w, digs]
  simp only [List.cons_append]
  rw [Nat.div_div_eq_div_mul, Nat.pow_succ, Nat.mul_comm 256]
theorem leVal_range : ∀ (l : List Int), Bytes l → 0 ≤ leVal l ∧ leVal l < 256 ^ l.length
 | [], _ => by simp [leVal]
 | x :: l, h => by
  have hx := h x (by simp)
  have := leVal_range l (fun y hy => h y (List.mem_cons_of_mem _ hy))
  simp only [leVal, List.length_cons, Int.pow_succ]
  omega
theorem leVal_snoc : ∀ (l : List Int) (x : Int), leVal (l ++ [x]) = leVal l + x * 256 ^ l.length
 | [], x => by simp [leVal]
 | y :: l, x => by
  simp only [List.cons_append, leVal, leVal_snoc l x, List.length_cons, Int.pow_succ]
  rw [Int.mul_add, Int.add_assoc]
  congr 2
  rw [Int.mul_comm 256, Int.mul_assoc]
theorem pow256 (i : Nat) : (256 : Int) ^ i = 2 ^ (8 * i) := by
 rw [Int.pow_mul]
 rfl
/-- '|' of what does not meet is '+'. -/
theorem or_add (x y : Int) (i : Nat) (h0 : 0 ≤ x) (h1 : x < 2 ^ i) (y0 : 0 ≤ y) (y1 : y % 2 ^ i = 0) (y2 : y < 2 ^ 63) (hi : (2 : Int) ^ i ≤ 2 ^ 63) : Go.bits .or .i64 x y = x + y := by
 obtain ⟨a, rfl⟩ := Int.eq_ofNat_of_zero_le h0
 obtain ⟨b, rfl⟩ := Int.eq_ofNat_of_zero_le y0
 have hw : ∀ n : Int, 0 ≤ n → n < 2 ^ 63 → IntKind.i64.wrap n = n := fun n n0 n1 => by rw [IntKind.wrap_i64]; omega
 have ha : a < 2 ^ i := by exact_mod_cast h1
 have hp : (2 : Nat) ^ i ≤ 2 ^ 63 := by exact_mod_cast hi
 have hb : b < 2 ^ 63 := by exact_mod_cast y2
 have hm : b % 2 ^ i = 0 := by exact_mod_cast y1
 rw [(bits_nat .i64 63 (by decide) hw a b (by omega) hb).2]
 have hq : b = 2 ^ i * (b / 2 ^ i) := by
  have := Nat.div_add_mod b (2 ^ i)
  omega
 rw [Nat.or_comm, hq, ← Nat.two_pow_add_eq_or_of_lt ha (b / 2 ^ i)]
 simp
 omega
theorem shl_i64 (x y : Int) (h0 : 0 ≤ y) (h1 : y ≤ 63) (x0 : 0 ≤ x * 2 ^ y.toNat) (x1 : x * 2 ^ y.toNat < 2 ^ 63) : shl .i64 x y = x * 2 ^ y.toNat := by
 unfold shl
 rw [Nat.min_eq_left (by simp only [IntKind.bits]; omega), IntKind.wrap_i64]
 omega
theorem shr_i64 (x y : Int) (h0 : 0 ≤ y) (h1 : y ≤ 63) : shr .i64 x y = x / 2 ^ y.toNat := by
 unfold shr
 rw [Nat.min_eq_left (by simp only [IntKind.bits]; omega)]
end Go.Proofs.Ytjfhbmbiegccnaa.Lib
