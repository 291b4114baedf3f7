import Derived.Test.YtjfhbmbiegccnaaShaB
namespace Go.Proofs.Ytjfhbmbiegccnaa.ShaBase
open Go.RowKit Go.Proofs.YtjfhbmbiegccnaaW.PrintWords Go.Proofs.YtjfhbmbiegccnaaW.PrintLast Go.Proofs.YtjfhbmbiegccnaaW.PrintMore
set_option linter.unusedVariables false
set_option linter.unusedSimpArgs false
/-- A word: 32 bits. -/
def Wd (x : Int) : Prop := 0 ≤ x ∧ x ≤ 4294967295
theorem and_wd (x : Int) : Wd (Go.bits .and .i64 x 4294967295) := by
 have e : Go.bits .and .i64 x 4294967295 = IntKind.i64.wrap ((BitVec.ofInt 64 x &&& BitVec.ofInt 64 4294967295).toNat : Int) := rfl
 have h : (BitVec.ofInt 64 x &&& BitVec.ofInt 64 4294967295).toNat < 2 ^ 32 := by
  rw [BitVec.toNat_and]
  exact Nat.and_lt_two_pow _ (by decide)
 unfold Wd
 rw [e, IntKind.wrap_i64]
 omega
theorem wraps_i64 (n : Int) (h₀ : 0 ≤ n) (h₁ : n < 2 ^ 63) : IntKind.i64.wrap n = n := by rw [IntKind.wrap_i64]; omega
theorem nat_bits (x y : Nat) (hx : x < 2 ^ 32) (hy : y < 2 ^ 32) : Go.bits .and .i64 (x : Int) (y : Int) = ((x &&& y : Nat) : Int) ∧ Go.bits .or .i64 (x : Int) (y : Int) = ((x ||| y : Nat) : Int) :=
 bits_nat .i64 63 (by decide) wraps_i64 x y (by omega) (by omega)
theorem or_wd {x y : Int} (hx : Wd x) (hy : Wd y) : Wd (Go.bits .or .i64 x y) := by
 obtain ⟨x0, x1⟩ := hx
 obtain ⟨y0, y1⟩ := hy
 obtain ⟨a, rfl⟩ := Int.eq_ofNat_of_zero_le x0
 obtain ⟨b, rfl⟩ := Int.eq_ofNat_of_zero_le y0
 have h : a ||| b < 2 ^ 32 := Nat.or_lt_two_pow (by omega) (by omega)
 unfold Wd
 rw [(nat_bits a b (by omega) (by omega)).2]
 omega
def word (l : List Int) (i : Nat) : Int := Go.bits .or .i64 (Go.bits .or .i64 (Go.bits .or .i64 (wrap64 ((wrap64 (rd l ((4 * i : Nat) : Int))) * 16777216)) (wrap64 ((wrap64 (rd l ((4 * i + 1 : Nat) : Int))) * 65536))) (wrap64 ((wrap64 (rd l ((4 * i + 2 : Nat) : Int))) * 256))) (wrap64 (rd l ((4 * i + 3 : Nat) : Int)))
theorem rd_mem {P : Int → Prop} (l : List Int) (h : ∀ x ∈ l, P x) (h0 : P 0) (i : Int) : P (rd l i) := by
 unfold rd
 rw [List.getD_eq_getElem?_getD]
 by_cases hi : i.toNat < l.length
 ·
  rw [List.getElem?_eq_getElem hi]
  exact h _ (List.getElem_mem hi)
 ·
  rw [List.getElem?_eq_none (by omega)]
  exact h0
theorem wrap_byte {x m : Int} (h : 0 ≤ x ∧ x ≤ 255) (m0 : 0 ≤ m) (m1 : m ≤ 16777216) : wrap64 ((wrap64 x) * m) = x * m := by
 have h1 : 0 ≤ x * m := Int.mul_nonneg h.1 m0
 have h2 : x * m ≤ 255 * 16777216 := Int.mul_le_mul h.2 m1 m0 (by decide)
 rw [show wrap64 x = x by unfold wrap64; omega]
 unfold wrap64
 omega
theorem word_wd (l : List Int) (h : ∀ x ∈ l, 0 ≤ x ∧ x ≤ 255) (i : Nat) : Wd (word l i) := by
 have r := fun j => rd_mem (P := fun x => 0 ≤ x ∧ x ≤ 255) l h (by decide) j
 have m : ∀ (j m : Int), 0 ≤ m → m ≤ 16777216 → Wd (wrap64 ((wrap64 (rd l j)) * m)) := fun j m m0 m1 => by
  rw [wrap_byte (r j) m0 m1]
  have := r j
  exact ⟨Int.mul_nonneg this.1 m0, Int.le_trans (Int.mul_le_mul this.2 m1 m0 (by decide)) (by decide)⟩
 unfold word
 refine or_wd (or_wd (or_wd (m _ _ (by decide) (by decide)) (m _ _ (by decide) (by decide))) (m _ _ (by decide) (by decide))) ?_
 have := r ((4 * i + 3 : Nat) : Int)
 unfold Wd
 rw [show wrap64 (rd l ((4 * i + 3 : Nat) : Int)) = rd l ((4 * i + 3 : Nat) : Int) by unfold wrap64; omega]
 omega
def bw (l : List Int) (i : Nat) : List Int := (List.range i).map (word l) ++ List.replicate (64 - i) 0
theorem bw_set (l : List Int) (i : Nat) (h : i < 64) : (bw l i).set i (word l i) = bw l (i + 1) := by
 unfold bw
 rw [List.set_append_right _ _ (by simp), show 64 - i = (64 - (i + 1)) + 1 by omega, List.replicate_succ, List.range_succ, List.map_append]
 simp
/-- The next word of the schedule. -/
def nextW (ws : List Int) : Int :=
 Go.bits .and .i64 (wrap64 ((wrap64 ((wrap64 (rd ws ((ws.length - 16 : Nat) : Int) +
  Go.bits .xor .i64 (Go.bits .xor .i64 (sh_rot (rd ws ((ws.length - 15 : Nat) : Int)) 7) (sh_rot (rd ws ((ws.length - 15 : Nat) : Int)) 18)) (rd ws ((ws.length - 15 : Nat) : Int) / 8))) + rd ws ((ws.length - 7 : Nat) : Int))) +
  Go.bits .xor .i64 (Go.bits .xor .i64 (sh_rot (rd ws ((ws.length - 2 : Nat) : Int)) 17) (sh_rot (rd ws ((ws.length - 2 : Nat) : Int)) 19)) (rd ws ((ws.length - 2 : Nat) : Int) / 1024))) 4294967295
def sched (l : List Int) : Nat → List Int
 | 0 => (List.range 16).map (word l)
 | n + 1 => sched l n ++ [nextW (sched l n)]
theorem sched_length (l : List Int) : ∀ n, (sched l n).length = 16 + n
 | 0 => by simp [sched]
 | n + 1 => by simp [sched, sched_length l n]; omega
theorem sched_wd (l : List Int) (h : ∀ x ∈ l, 0 ≤ x ∧ x ≤ 255) : ∀ n, ∀ x ∈ sched l n, Wd x
 | 0 => fun x hx => by
  obtain ⟨i, _, rfl⟩ := List.mem_map.1 hx
  exact word_wd l h i
 | n + 1 => fun x hx => by
  rcases List.mem_append.1 hx with hx | hx
  ·
   exact sched_wd l h n x hx
  ·
   obtain rfl := List.mem_singleton.1 hx
   exact and_wd _
def cw (l : List Int) (n : Nat) : List Int := sched l n ++ List.replicate (48 - n) 0
theorem cw_set (l : List Int) (n : Nat) (h : n < 48) : (cw l n).set (16 + n) (nextW (sched l n)) = cw l (n + 1) := by
 unfold cw
 rw [List.set_append_right _ _ (by rw [sched_length]; omega), sched_length, show 48 - n = (48 - (n + 1)) + 1 by omega, List.replicate_succ]
 simp [sched]
theorem cw_rd (l : List Int) (n j : Nat) (h : j < 16 + n) : rd (cw l n) (j : Int) = rd (sched l n) (j : Int) := by
 unfold cw rd
 rw [Int.toNat_natCast, List.getD_eq_getElem?_getD, List.getElem?_append_left (by rw [sched_length]; omega), ← List.getD_eq_getElem?_getD]
theorem cw_zero (l : List Int) : bw l 16 = cw l 0 := rfl
end Go.Proofs.Ytjfhbmbiegccnaa.ShaBase
