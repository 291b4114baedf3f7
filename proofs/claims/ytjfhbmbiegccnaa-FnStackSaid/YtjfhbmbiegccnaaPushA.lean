/- One row more at the end of a slice of rows of one's own, whatever came up since it was put into its slice. No conditions but those typed. -/
import Derived.Test.YtjfhbmbiegccnaaShaM
namespace Go.Proofs.Ytjfhbmbiegccnaa.ShaBase
open Go.RowKit Go.Proofs.YtjfhbmbiegccnaaW.PrintWords Go.Proofs.YtjfhbmbiegccnaaW.PrintLast Go.Proofs.YtjfhbmbiegccnaaW.PrintMore
set_option linter.unusedVariables false
theorem S_append_one {P : Program} {ops : Array Oper} {o : Oper} {a : Act} {Q : Exit → Act → World → Prop} {Kc : Act → World → Prop} {w0 W : World} (base : Nat) (hw : Region.wanted o (yielded ops a.tmps) = true) (s x : Operand) (t : TypeId) (z : Value) (bytes : Nat)
    (ho : o.op = .call { callee := .builtin .append, args := #[s, x], argTypes := #[t, t] })
    (ht : P.underlying t = some (.slice 23)) (hinfo : (P.info? 23).map (fun i => (i.zero, i.size, i.bytes)) = some (some z, 1, bytes)) (hz : z.cells.size = 1) (hb0 : 0 < bytes)
    (v u : Value) (xs : List (List Int)) (p : List Int) (g : Nat) (ok okp : Nat → Prop) (hs : a.eval s = v) (hx : a.eval x = .slice (some ⟨g, 0, none⟩) 1 1) (hg : W.heap[g]? = some (.cells #[u] 23 (0, 0))) (hp : (Kd.int .u8).R 5 W base okp u p) (hokp : ∀ k, okp k → ok k ∧ some k ≠ v.ownBlock) (hfresh : ∀ k, W.heap.size ≤ k → ok k)
    (HO : Kd.S (Kd.slice 5 (Kd.int .u8)) 23 W base (fun k => ok k ∧ ¬ okp k) v xs) (HB : Below base w0 W) (hbase : base ≤ W.heap.size) (hl : (xs.length + 1) * bytes ≤ 140737488355328)
    (h : ∀ v1 w1, Kd.S (Kd.slice 5 (Kd.int .u8)) 23 w1 base ok v1 (xs ++ [p]) → Below base w0 w1 → W.grownBy w1 v.ownBlock → (v1.ownBlock = v.ownBlock ∨ ∃ b, v1.ownBlock = some b ∧ W.heap.size ≤ b) → Kc (a.put o.dst v1) w1) :
    if Region.wanted o (yielded ops a.tmps) = true then Oper.wp P o a W Kc Q else Kc (a.put o.dst undef) W := by
  obtain ⟨f, hf, hR⟩ := Kd.S_tag HO xs.length okp (fun _ hk h2 => h2.2 hk)
  refine Kd.R_append_rows_step (Kd.tag f (Kd.slice 5 (Kd.int .u8))) (Rr := fun y cs => y = (p, xs.length) ∧ cs = [u]) base hw s x t 23 z bytes ho ht hinfo hz Nat.one_pos hb0 v xs.zipIdx [(p, xs.length)] (some ⟨g, 0, none⟩) 1 1 ok okp hs hx (Kd.R_mono hR (fun _ hk => hk.1)) ?_ ?_ hokp hfresh HB hbase (by rw [List.length_zipIdx]; exact hl) ?_
  · refine ⟨rfl, by decide, fun _ => ⟨⟨g, 0, none⟩, rfl, fun j q hj => ?_⟩⟩
    cases j with
    | zero =>
      obtain rfl : (p, xs.length) = q := by simpa using hj
      refine ⟨[u], rfl, ⟨rfl, rfl⟩, fun i y hi => ?_⟩
      cases i with
      | zero =>
        obtain rfl : u = y := by simpa using hi
        exact (blk_cell hg 0).trans rfl
      | succ i => simp at hi
    | succ j => simp at hj
  · rintro y cs ⟨rfl, rfl⟩
    exact ⟨u, rfl, Kd.R_mono hp (fun k hk => ⟨hk, hf k hk⟩)⟩
  · intro v1 w1 hr
    rw [← Kd.zip_snoc] at hr
    exact h v1 w1 ⟨f, hr⟩
end Go.Proofs.Ytjfhbmbiegccnaa.ShaBase
