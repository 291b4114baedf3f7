/- The hash as a plain function: the blocks one behind the other, then the words as bytes. No conditions but those typed. -/
import Derived.Test.YtjfhbmbiegccnaaLib
import Derived.Test.YtjfhbmbiegccnaaLibSha
import Derived.Test.YtjfhbmbiegccnaaShaD
set_option linter.unusedVariables false
set_option linter.unusedSimpArgs false
namespace Go.Proofs.Ytjfhbmbiegccnaa.Lib
open Go.RowKit Go.Proofs.YtjfhbmbiegccnaaW.PrintWords Go.Proofs.YtjfhbmbiegccnaaW.PrintLast Go.Proofs.YtjfhbmbiegccnaaW.PrintMore

def shaInit : List Int := [1779033703, 3144134277, 1013904242, 2773480762, 1359893119, 2600822924, 528734635, 1541459225]
/-- Eight words. -/
def Words (h : List Int) : Prop := h.length = 8 ∧ ∀ x ∈ h, ShaBase.Wd x
theorem shaInit_words : Words shaInit := ⟨rfl, by decide⟩
theorem block_words {h l : List Int} (hh : Words h) (hl : l.length = 64) : Words (ShaBase.blockOf h l) := by
 unfold ShaBase.blockOf
 rw [if_pos ⟨hh.1, hl, hh.2⟩]
 refine ⟨by simp [ShaBase.shaBlock, ShaBase.sumI], fun x hx => ?_⟩
 simp only [ShaBase.shaBlock, ShaBase.sumI, List.mem_map] at hx
 obtain ⟨i, _, rfl⟩ := hx
 exact ShaBase.and_wd _
/-- n blocks of p, one behind the other. -/
def shaBlocks : Nat → List Int → List Int → List Int
 | 0, _, h => h
 | n + 1, p, h => shaBlocks n (p.drop 64) (ShaBase.blockOf h (p.take 64))
theorem shaBlocks_words : ∀ (n : Nat) (p h : List Int), n * 64 ≤ p.length → Words h → Words (shaBlocks n p h)
 | 0, _, _, _, hh => hh
 | n + 1, p, h, hp, hh => shaBlocks_words n (p.drop 64) _ (by rw [List.length_drop]; omega) (block_words hh (by rw [List.length_take]; omega))
def word4 (x : Int) : List Int := [x / 16777216 % 256, x / 65536 % 256, x / 256 % 256, x % 256]
def shaOut (h : List Int) : List Int := h.flatMap word4
theorem shaOut_cons (x : Int) (h : List Int) : shaOut (x :: h) = word4 x ++ shaOut h := rfl
theorem shaOut_length : ∀ h : List Int, (shaOut h).length = 4 * h.length
 | [] => rfl
 | x :: h => by rw [shaOut_cons, List.length_append, shaOut_length h, List.length_cons]; simp [word4]; omega
theorem shaOut_bytes : ∀ h : List Int, Bytes (shaOut h)
 | [] => Bytes.nil
 | x :: h => by
  rw [shaOut_cons]
  exact (Bytes.cons (by omega) (by omega) (Bytes.cons (by omega) (by omega) (Bytes.cons (by omega) (by omega) (Bytes.one (by omega) (by omega))))).app (shaOut_bytes h)
def sha (l : List Int) : List Int := shaOut (shaBlocks ((shaPad l).length / 64) (shaPad l) shaInit)
theorem sha_length (l : List Int) : (sha l).length = 32 := by
 unfold sha
 rw [shaOut_length, (shaBlocks_words _ _ _ (by omega) shaInit_words).1]
theorem sha_bytes (l : List Int) : Bytes (sha l) := shaOut_bytes _
end Go.Proofs.Ytjfhbmbiegccnaa.Lib
