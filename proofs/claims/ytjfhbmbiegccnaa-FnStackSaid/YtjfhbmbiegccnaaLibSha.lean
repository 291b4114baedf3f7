/- How a message is filled up, as a plain function. No conditions but those typed. -/
import Derived.Test.YtjfhbmbiegccnaaLib
import Derived.Test.YtjfhbmbiegccnaaLibNum
set_option linter.unusedVariables false
set_option linter.unusedSimpArgs false
namespace Go.Proofs.Ytjfhbmbiegccnaa.Lib
open Go.RowKit Go.Proofs.YtjfhbmbiegccnaaW.PrintWords Go.Proofs.YtjfhbmbiegccnaaW.PrintLast Go.Proofs.YtjfhbmbiegccnaaW.PrintMore

/-- n's w bytes, the greatest first. -/
def beB (n : Nat) : Nat → List Int
 | 0 => []
 | w + 1 => ((n / 256 ^ w % 256 : Nat) : Int) :: beB n w
theorem beB_length (n : Nat) : ∀ w, (beB n w).length = w
 | 0 => rfl
 | w + 1 => by simp [beB, beB_length n w]
theorem beB_bytes (n : Nat) : ∀ w, Bytes (beB n w)
 | 0 => Bytes.nil
 | w + 1 => Bytes.cons (by omega) (by omega) (beB_bytes n w)
/-- How many zeros are missing until 56 of 64 are there. -/
def missing (n : Nat) : Nat := (119 - n % 64) % 64
theorem missing_zero {n : Nat} (h : (n : Int) % 64 = 55) : missing n = 0 := by unfold missing; omega
def shaPad (l : List Int) : List Int := l ++ [128] ++ List.replicate (missing l.length) 0 ++ beB (8 * l.length) 8
theorem shaPad_length (l : List Int) : (shaPad l).length ≤ l.length + 73 := by
 simp [shaPad, beB_length, missing]
 omega
theorem shaPad_mod (l : List Int) : (shaPad l).length % 64 = 0 := by
 simp [shaPad, beB_length, missing]
 omega
theorem shaPad_more (l : List Int) : l.length + 9 ≤ (shaPad l).length := by
 simp [shaPad, beB_length]
theorem bytes_zeros (n : Nat) : Bytes (List.replicate n 0) := fun x hx => by
 rw [List.eq_of_mem_replicate hx]
 omega
theorem shaPad_bytes (l : List Int) (h : Bytes l) : Bytes (shaPad l) :=
 ((h.app (Bytes.one (by omega) (by omega))).app (bytes_zeros _)).app (beB_bytes _ _)
theorem shaPad_take (l : List Int) : (shaPad l).take l.length = l := by
 simp [shaPad]
end Go.Proofs.Ytjfhbmbiegccnaa.Lib
