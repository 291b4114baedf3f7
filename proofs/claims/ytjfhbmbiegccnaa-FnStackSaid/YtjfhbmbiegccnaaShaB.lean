import Derived.Test.YtjfhbmbiegccnaaShaA
import Derived.Outline
import Derived.Laws.CopyOwn
import Derived.Great.Walk
import Derived.Great.BuildSlice
import Derived.StillTailTactics
import Derived.Deep.QuietTactic
import Derived.BigQuiet
namespace Go.Proofs.Ytjfhbmbiegccnaa.ShaBase
open Go.RowKit Go.Proofs.YtjfhbmbiegccnaaW.PrintWords Go.Proofs.YtjfhbmbiegccnaaW.PrintLast Go.Proofs.YtjfhbmbiegccnaaW.PrintMore
set_option linter.unusedVariables false
set_option linter.unusedSimpArgs false
def zeros (n : Nat) : Array Value := (List.replicate n (Value.int .i64 0)).toArray
theorem zeros_size (n : Nat) : (zeros n).size = n := by simp [zeros]
theorem built68 : Try.prog.built 68 [] = some (zeros 64) := by kernel_rfl
theorem built69 : Try.prog.built 69 [] = some (zeros 8) := by kernel_rfl
theorem one64 : (zeros 64).all (·.oneCell') = true := by kernel_rfl
theorem one8 : (zeros 8).all (·.oneCell') = true := by kernel_rfl
theorem size68 : (Try.prog.info? 68).map (·.size) = some 64 := by kernel_rfl
theorem size69 : (Try.prog.info? 69).map (·.size) = some 8 := by kernel_rfl
/-- The four operations that make two arrays: what they leave. -/
theorem alloc68 {ops : Array Oper} {rest : List Oper} {o : Oper} {a : Act} {w : World} {Q : Exit → Act → World → Prop} (hg : o.guard = none) (d : Option Tmp) (hd : o.dst = d) (ho : o.op = .alloc 68)
  (h : wpList Try.prog ops Q rest (a.put d (.pointer (some ⟨w.heap.size, 0, none⟩))) (w.alloc (.cells (zeros 64) 68))) : wpList Try.prog ops Q (o :: rest) a w := by
 refine Great.wpList_allocTo hg d hd _ _ ?_ h
 unfold execOp
 rw [ho]
 kernel_rfl
theorem alloc69 {ops : Array Oper} {rest : List Oper} {o : Oper} {a : Act} {w : World} {Q : Exit → Act → World → Prop} (hg : o.guard = none) (d : Option Tmp) (hd : o.dst = d) (ho : o.op = .alloc 69)
  (h : wpList Try.prog ops Q rest (a.put d (.pointer (some ⟨w.heap.size, 0, none⟩))) (w.alloc (.cells (zeros 8) 69))) : wpList Try.prog ops Q (o :: rest) a w := by
 refine Great.wpList_allocTo hg d hd _ _ ?_ h
 unfold execOp
 rw [ho]
 kernel_rfl
/-- The two arrays that the call made: what their cells hold. -/
structure AInv (w W : World) (gw gv : Nat) (xs vs : List Int) : Prop where
 hw : W.heap[gw]? = some (.cells (nums .i64 xs).toArray 68 (0, 0))
 hv : W.heap[gv]? = some (.cells (nums .i64 vs).toArray 69 (0, 0))
 lw : w.heap.size ≤ gw
 lv : w.heap.size ≤ gv
 lx : xs.length = 64
 ly : vs.length = 8
theorem nums_at (xs : List Int) (i : Nat) (h : i < xs.length) : (nums .i64 xs).toArray[i]? = some (.int .i64 (rd xs (i : Int))) := by
 simp [nums, rd, h]
theorem AInv.ne {w W : World} {gw gv : Nat} {xs vs : List Int} (h : AInv w W gw gv xs vs) : gw ≠ gv := by
 rintro rfl
 have := h.hw.symm.trans h.hv
 simp at this
theorem AInv.cell_w {w W : World} {gw gv : Nat} {xs vs : List Int} (h : AInv w W gw gv xs vs) (i : Nat) (hi : i < 64) : W.cell? ⟨gw, i, none⟩ = some (.int .i64 (rd xs (i : Int))) := by
 rw [cell_of_row _ _ _ _ _ _ h.hw]
 exact nums_at xs i (by rw [h.lx]; exact hi)
theorem AInv.cell_v {w W : World} {gw gv : Nat} {xs vs : List Int} (h : AInv w W gw gv xs vs) (i : Nat) (hi : i < 8) : W.cell? ⟨gv, i, none⟩ = some (.int .i64 (rd vs (i : Int))) := by
 rw [cell_of_row _ _ _ _ _ _ h.hv]
 exact nums_at vs i (by rw [h.ly]; exact hi)
theorem AInv.of_heap {w W W' : World} {gw gv : Nat} {xs vs : List Int} (h : AInv w W gw gv xs vs) (e : W'.heap = W.heap) : AInv w W' gw gv xs vs :=
 ⟨by rw [e]; exact h.hw, by rw [e]; exact h.hv, h.lw, h.lv, h.lx, h.ly⟩
theorem AInv.set_w {w W : World} {gw gv : Nat} {xs vs : List Int} (h : AInv w W gw gv xs vs) (i : Nat) (x : Int) : AInv w (W.setCell ⟨gw, i, none⟩ (.int .i64 x)) gw gv (xs.set i x) vs := by
 refine ⟨?_, ?_, h.lw, h.lv, by rw [List.length_set]; exact h.lx, h.ly⟩
 ·
  rw [heap_setCell_same _ _ _ _ _ _ h.hw]
  congr 2
  simp [nums, List.map_set]
 ·
  rw [Below.heap_setCell _ _ _ _ (Ne.symm h.ne)]
  exact h.hv
theorem AInv.set_v {w W : World} {gw gv : Nat} {xs vs : List Int} (h : AInv w W gw gv xs vs) (ys : List Int) (hy : ys.length = 8) : AInv w (W.setRow gv (nums .i64 ys).toArray) gw gv xs ys := by
 refine ⟨?_, setRow_heap _ _ _ _ _ _ h.hv, h.lw, h.lv, h.lx, hy⟩
 rw [setRow_other _ _ _ _ h.ne]
 exact h.hw
theorem zeros_nums (n : Nat) : zeros n = (nums .i64 (List.replicate n 0)).toArray := by
 simp [zeros, nums]
theorem AInv.start {w W : World} (hB : Below w.heap.size w W) : AInv w (((W.alloc (.cells (zeros 64) 68)).alloc (.cells (zeros 8) 69))) W.heap.size (W.heap.size + 1) (List.replicate 64 0) (List.replicate 8 0) := by
 have hs := hB.size
 refine ⟨?_, ?_, hs, by omega, by simp, by simp⟩
 ·
  rw [heap_alloc_old _ _ (by simp), heap_alloc_new, zeros_nums]
 ·
  have := heap_alloc_new (W.alloc (.cells (zeros 64) 68)) (.cells (zeros 8) 69)
  rw [World.size_alloc] at this
  rw [this, zeros_nums]
end Go.Proofs.Ytjfhbmbiegccnaa.ShaBase
