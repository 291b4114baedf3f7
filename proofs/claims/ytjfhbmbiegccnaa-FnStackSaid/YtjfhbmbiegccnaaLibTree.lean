/- The root of a tree, as a plain function. No conditions but those typed. -/
import Derived.Test.YtjfhbmbiegccnaaLibMac
set_option linter.unusedVariables false
set_option linter.unusedSimpArgs false
namespace Go.Proofs.Ytjfhbmbiegccnaa.Lib
open Go.RowKit Go.Proofs.YtjfhbmbiegccnaaW.PrintWords Go.Proofs.YtjfhbmbiegccnaaW.PrintLast Go.Proofs.YtjfhbmbiegccnaaW.PrintMore

/-- Where a tree of n leaves is parted. -/
def splitN (n : Nat) : Nat := 2 ^ (n - 1).log2
theorem splitN_spec {n : Nat} (h : 2 ≤ n) : 1 ≤ splitN n ∧ splitN n < n ∧ n ≤ 2 * splitN n := by
 have h1 := Nat.log2_self_le (n := n - 1) (by omega)
 have h2 : n - 1 < 2 ^ ((n - 1).log2 + 1) := Nat.lt_log2_self
 have h3 : 0 < 2 ^ (n - 1).log2 := Nat.pow_pos (by decide)
 unfold splitN
 rw [Nat.pow_succ] at h2
 generalize 2 ^ (n - 1).log2 = p at h1 h2 h3 ⊢
 omega
theorem splitN_unique {n r e : Nat} (he : r = 2 ^ e) (h1 : r < n) (h2 : n ≤ 2 * r) : r = splitN n := by
 unfold splitN
 have h3 : 0 < 2 ^ e := Nat.pow_pos (by decide)
 have : (n - 1).log2 = e := (Nat.log2_eq_iff (by omega)).2 ⟨by omega, by rw [Nat.pow_succ]; omega⟩
 rw [this, he]
def treeRoot (l : List (List Int)) : List Int :=
 if h : l.length < 2 then (match l with | [] => sha [] | x :: _ => leafHash x)
 else nodeHash (treeRoot (l.take (splitN l.length))) (treeRoot (l.drop (splitN l.length)))
termination_by l.length
decreasing_by
 all_goals
  have := splitN_spec (n := l.length) (by omega)
  simp
  omega
theorem treeRoot_nil : treeRoot [] = sha [] := by
 rw [treeRoot]
 simp
theorem treeRoot_one (x : List Int) : treeRoot [x] = leafHash x := by
 rw [treeRoot]
 simp
theorem treeRoot_node {l : List (List Int)} (h : 2 ≤ l.length) : treeRoot l = nodeHash (treeRoot (l.take (splitN l.length))) (treeRoot (l.drop (splitN l.length))) := by
 rw [treeRoot, dif_neg (by omega)]
theorem treeRoot_len (l : List (List Int)) : (treeRoot l).length = 32 ∧ Bytes (treeRoot l) := by
 rw [treeRoot]
 by_cases h : l.length < 2
 ·
  rw [dif_pos h]
  cases l with
  | nil => exact ⟨sha_length _, sha_bytes _⟩
  | cons x l => exact ⟨leafHash_length _, leafHash_bytes _⟩
 ·
  rw [dif_neg h]
  exact ⟨nodeHash_length _ _, nodeHash_bytes _ _⟩
/-- Rows of bytes that are not too long. -/
def RowsOk (l : List (List Int)) : Prop := ∀ r ∈ l, Bytes r ∧ r.length ≤ 1048576
theorem RowsOk.take {l : List (List Int)} (h : RowsOk l) (n : Nat) : RowsOk (l.take n) := fun r hr => h r (List.mem_of_mem_take hr)
theorem RowsOk.drop {l : List (List Int)} (h : RowsOk l) (n : Nat) : RowsOk (l.drop n) := fun r hr => h r (List.mem_of_mem_drop hr)
end Go.Proofs.Ytjfhbmbiegccnaa.Lib
