/- The hashes of leaves and nodes, the key block and the tag, as plain functions. No conditions but those typed. -/
import Derived.Test.YtjfhbmbiegccnaaLibHash
import Derived.Test.YtjfhbmbiegccnaaShaK
set_option linter.unusedVariables false
set_option linter.unusedSimpArgs false
namespace Go.Proofs.Ytjfhbmbiegccnaa.Lib
open Go.RowKit Go.Proofs.YtjfhbmbiegccnaaW.PrintWords Go.Proofs.YtjfhbmbiegccnaaW.PrintLast Go.Proofs.YtjfhbmbiegccnaaW.PrintMore

def leafHash (l : List Int) : List Int := sha ([0] ++ l)
def nodeHash (a b : List Int) : List Int := sha ([1] ++ a ++ b)
theorem leafHash_length (l : List Int) : (leafHash l).length = 32 := sha_length _
theorem nodeHash_length (a b : List Int) : (nodeHash a b).length = 32 := sha_length _
theorem leafHash_bytes (l : List Int) : Bytes (leafHash l) := sha_bytes _
theorem nodeHash_bytes (a b : List Int) : Bytes (nodeHash a b) := sha_bytes _
theorem fill64_small {t : List Int} (h : t.length ≤ 64) : ShaBase.fill64 t = t ++ List.replicate (64 - t.length) 0 := by
 unfold ShaBase.fill64
 rw [List.take_of_length_le (by simpa using h), List.drop_replicate]
theorem fill64_length (t : List Int) : (ShaBase.fill64 t).length = 64 := by
 unfold ShaBase.fill64
 simp
 omega
theorem fill64_bytes {t : List Int} (h : Bytes t) : Bytes (ShaBase.fill64 t) := by
 unfold ShaBase.fill64
 rw [List.drop_replicate]
 exact (h.take _).app (bytes_zeros _)
def macKey (l : List Int) : List Int := ShaBase.fill64 (if 64 < l.length then sha l else l)
theorem macKey_length (l : List Int) : (macKey l).length = 64 := fill64_length _
theorem macKey_bytes {l : List Int} (h : Bytes l) : Bytes (macKey l) := by
 unfold macKey
 split
 ·
  exact fill64_bytes (sha_bytes _)
 ·
  exact fill64_bytes h
def xorl (x : Int) (l : List Int) : List Int := l.map fun c => Go.bits .xor .u8 c x
theorem xorl_length (x : Int) (l : List Int) : (xorl x l).length = l.length := by simp [xorl]
theorem xor_u8 (a b : Int) : 0 ≤ Go.bits .xor .u8 a b ∧ Go.bits .xor .u8 a b ≤ 255 := by
 have e : Go.bits .xor .u8 a b = IntKind.u8.wrap ((BitVec.ofInt 8 a ^^^ BitVec.ofInt 8 b).toNat : Int) := rfl
 rw [e]
 have : ∀ n : Int, 0 ≤ IntKind.u8.wrap n ∧ IntKind.u8.wrap n ≤ 255 := fun n => by
  simp only [IntKind.wrap, IntKind.signed, IntKind.bits]
  simp
  omega
 exact this _
theorem xorl_bytes (x : Int) (l : List Int) : Bytes (xorl x l) := fun y hy => by
 simp only [xorl, List.mem_map] at hy
 obtain ⟨c, _, rfl⟩ := hy
 exact xor_u8 c x
def mac (k b : List Int) : List Int := sha (xorl 92 (macKey k) ++ sha (xorl 54 (macKey k) ++ b))
theorem mac_length (k b : List Int) : (mac k b).length = 32 := sha_length _
theorem mac_bytes (k b : List Int) : Bytes (mac k b) := sha_bytes _
end Go.Proofs.Ytjfhbmbiegccnaa.Lib
