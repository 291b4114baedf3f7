/- The round and the last sum, as plain functions. -/
import Derived.Test.YtjfhbmbiegccnaaShaC
namespace Go.Proofs.Ytjfhbmbiegccnaa.ShaBase
open Go.RowKit Go.Proofs.YtjfhbmbiegccnaaW.PrintWords Go.Proofs.YtjfhbmbiegccnaaW.PrintLast Go.Proofs.YtjfhbmbiegccnaaW.PrintMore
set_option linter.unusedVariables false
set_option linter.unusedSimpArgs false
def rK : List Int := impl_rounds.f.getD []
def chI (e f g : Int) : Int := Go.bits .or .i64 (Go.bits .and .i64 e f) (Go.bits .and .i64 (Go.bits .xor .i64 e 4294967295) g)
def majI (a b c : Int) : Int := Go.bits .or .i64 (Go.bits .or .i64 (Go.bits .and .i64 a b) (Go.bits .and .i64 a c)) (Go.bits .and .i64 b c)
def tI (v : List Int) (k x : Int) : Int := wrap64 (wrap64 (wrap64 (wrap64 (rd v 7 + Go.bits .xor .i64 (Go.bits .xor .i64 (sh_rot (rd v 4) 6) (sh_rot (rd v 4) 11)) (sh_rot (rd v 4) 25)) + chI (rd v 4) (rd v 5) (rd v 6)) + k) + x)
def uI (v : List Int) : Int := wrap64 (Go.bits .xor .i64 (Go.bits .xor .i64 (sh_rot (rd v 0) 2) (sh_rot (rd v 0) 13)) (sh_rot (rd v 0) 22) + majI (rd v 0) (rd v 1) (rd v 2))
def stepI (v : List Int) (k x : Int) : List Int := [Go.bits .and .i64 (wrap64 (tI v k x + uI v)) 4294967295, rd v 0, rd v 1, rd v 2, Go.bits .and .i64 (wrap64 (rd v 3 + tI v k x)) 4294967295, rd v 4, rd v 5, rd v 6]
/-- The eight words after n rounds. -/
def runI (h l : List Int) : Nat → List Int
 | 0 => h
 | n + 1 => stepI (runI h l n) (rd rK (n : Int)) (rd (sched l 48) (n : Int))
theorem runI_length (h l : List Int) (hh : h.length = 8) : ∀ n, (runI h l n).length = 8
 | 0 => hh
 | n + 1 => rfl
theorem runI_wd (h l : List Int) (hw : ∀ x ∈ h, Wd x) : ∀ n, ∀ x ∈ runI h l n, Wd x
 | 0 => hw
 | n + 1 => by
  have ih := runI_wd h l hw n
  have z : Wd 0 := ⟨by decide, by decide⟩
  intro x hx
  simp only [runI, stepI, List.mem_cons, List.not_mem_nil, or_false] at hx
  rcases hx with rfl | rfl | rfl | rfl | rfl | rfl | rfl | rfl
  ·
   exact and_wd _
  ·
   exact rd_mem _ ih z _
  ·
   exact rd_mem _ ih z _
  ·
   exact rd_mem _ ih z _
  ·
   exact and_wd _
  ·
   exact rd_mem _ ih z _
  ·
   exact rd_mem _ ih z _
  ·
   exact rd_mem _ ih z _
def sumI (h v : List Int) (n : Nat) : List Int := (List.range n).map fun i : Nat => Go.bits .and .i64 (wrap64 (rd h (i : Int) + rd v (i : Int))) 4294967295
/-- What a block comes to. -/
def shaBlock (h l : List Int) : List Int := sumI h (runI h l 64) 8
theorem sumI_length (h v : List Int) (n : Nat) : (sumI h v n).length = n := by simp [sumI]
theorem sumI_succ (h v : List Int) (n : Nat) : sumI h v (n + 1) = sumI h v n ++ [Go.bits .and .i64 (wrap64 (rd h (n : Int) + rd v (n : Int))) 4294967295] := by
 simp [sumI, List.range_succ]
theorem AInv.lt {w W : World} {gw gv : Nat} {xs vs : List Int} (h : AInv w W gw gv xs vs) : gw < W.heap.size ∧ gv < W.heap.size := by
 obtain ⟨h1, _⟩ := Array.getElem?_eq_some_iff.1 h.hw
 obtain ⟨h2, _⟩ := Array.getElem?_eq_some_iff.1 h.hv
 exact ⟨h1, h2⟩
theorem AInv.grown {w W W' : World} {gw gv : Nat} {xs vs : List Int} {row : Option Nat} (h : AInv w W gw gv xs vs) (hg : W.grownBy W' row) (h1 : some gw ≠ row) (h2 : some gv ≠ row) : AInv w W' gw gv xs vs :=
 ⟨by rw [hg.block gw h.lt.1 h1]; exact h.hw, by rw [hg.block gv h.lt.2 h2]; exact h.hv, h.lw, h.lv, h.lx, h.ly⟩
theorem ne_new {w W : World} {gw gv : Nat} {xs vs : List Int} (h : AInv w W gw gv xs vs) : W.heap.size ≠ gw ∧ W.heap.size ≠ gv := by
 have := h.lt
 omega
theorem ne_old {w W : World} {gw gv : Nat} {xs vs : List Int} (h : AInv w W gw gv xs vs) (k : Nat) (hk : W.heap.size ≤ k) : k ≠ gw ∧ k ≠ gv := by
 have := h.lt
 omega
instance (x : Int) : Decidable (Wd x) := by unfold Wd; infer_instance
/-- What a call comes to. -/
def blockOf (h l : List Int) : List Int := if h.length = 8 ∧ l.length = 64 ∧ (∀ x ∈ h, Wd x) then shaBlock h l else []
theorem nums_one (xs : List Int) : ((nums .i64 xs).toArray.all fun x => x.oneCell') = true := by
 rw [List.all_toArray, List.all_eq_true]
 intro v hv
 obtain ⟨x, _, rfl⟩ := List.mem_map.1 hv
 rfl
end Go.Proofs.Ytjfhbmbiegccnaa.ShaBase
