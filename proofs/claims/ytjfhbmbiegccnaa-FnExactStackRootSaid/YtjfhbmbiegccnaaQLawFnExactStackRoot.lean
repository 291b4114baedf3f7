/- Walks of the functions that the law reaches, a contract for each (written by a program, after the kit's print, with the functions whose contracts are proved by hand). No conditions but those typed. -/
import Derived.Test.YtjfhbmbiegccnaaRows
import Derived.Test.YtjfhbmbiegccnaaQFnExactStackRootx6
import Derived.Test.YtjfhbmbiegccnaaPureFnExactStackRoot
import Derived.Test.YtjfhbmbiegccnaaLibCells
import Derived.WalkKit
import Derived.ProofKit
import Derived.OpenShut
import Derived.ShutString
import Derived.ChangeOld
import Derived.Below
import Derived.SizedLaws
import Derived.Test.YtjfhbmbiegccnaaWSized
namespace Go.Proofs.Ytjfhbmbiegccnaa.fnExactStackRoot
open Go.Proofs.YtjfhbmbiegccnaaW
open Go.ChangeShapes Go.WideShapes Go.ChangeAt Go.RowKit
open Go.ChangeMaps (open_string shut_string)
set_option linter.unusedVariables false
theorem own : ownKnob Try.prog.godebug = none := by kernel_rfl
theorem laidOut : laidOutB Try.prog = true := by kernel_rfl
set_option maxRecDepth 100000 in
theorem lifted (os : Os) (started : os.Started) (H : Type) (enc : TypeId × Value → H) :
    ReturnsInHanded {} Try.checked os 15 .any (Rows.fnExactStackRootSpec.pre6 enc Try.prog Try.f15 Rows.fnExactStackRootRow.domain false) (Rows.fnExactStackRootSpec.post enc Try.prog Try.f15 false true false false) := by
  refine returnsInHanded_of_change_sized (C := Try.checked) own started (by kernel_rfl) Try.func15
    (ChangeSpec.witness6 (enc := enc) (C := Try.checked) false ⟨#[], #[.agg #[.slice none 0 0, .slice none 0 0]], []⟩ 8 (by kernel_rfl) (by kernel_rfl) (by kernel_rfl) (by kernel_rfl)) ?_
  intro W base args ds gs before hval0 hW hcnd hsz0 _
  have hsz : (DataW.weightsEach Try.prog (Try.f15.params.toList ++ Rows.fnExactStackRootSpec.plain.varTypes Try.prog) (ds ++ gs)).all (· ≤ reachBytes) = true := hsz0
  have hval : ∀ (j : Nat) t v, Try.f15.params[j]? = some t → args[j]? = some v → Value.okWide Try.prog W .any base t v := hval0
  have hW' := hW
  obtain ⟨p, q, hA0, hV, rfl, hfz, hnd⟩ := hW
  have hA : DataW.TrodAll enc Try.prog W 0 (fun _ => true) true Try.f15.params.toList args.toList ds p := hA0
  rw [Try.params15] at hA hval hsz
  obtain ⟨v0, vs0, d0, ds0, p0, q0, hargs, rfl, rfl, h0, r0⟩ := trodAll_cons hA
  obtain ⟨rfl, rfl, rfl⟩ := trodAll_nil r0
  obtain rfl : args = #[v0] := by cases args; simp_all
  obtain ⟨rfl, rfl⟩ := trodVars_none hV
  have k0 := h0
  have lt0 : ∀ x ∈ p0, x.block < W.heap.size := by obtain ⟨m, hm⟩ := k0; exact DataW.trod_lt m _ _ _ hm
  obtain ⟨u, v, y, z, fuel, rfl, _, _, hu, hv⟩ := Joins.open_agg2 Try.underlying60 (by kernel_rfl) (by kernel_rfl) (hval 0 60 v0 rfl rfl) h0
  obtain ⟨A, l, c, rfl, n0, m0, b0, e0⟩ := LibRows.open_intsV Try.underlying22 Try.underlying3 (by kernel_rfl) hu
  obtain ⟨B, s, d, rfl, n1, m1, b1, e1⟩ := LibRows.open_rowsV Try.underlying38 Try.underlying23 Try.underlying5 (by kernel_rfl) (by kernel_rfl) hv
  clear hA0 hval0 hsz0 hsz
  refine Calls.mono (R := fun e w' => e = .returned (.bool true) ∧ Below W.heap.size W w') ?_ fun e W' ⟨he, bel⟩ => ?_
  · rcases Pure.FnExactStackRoot l s m0 m1 b1 with ⟨k, x, h1, h2⟩ | ⟨k, x, t, p', m, q0, q1, q, t1, h1, h2, h3, h4, h5, h6, h7, h8, h9, h10, h11, h12, h13, h14⟩
    · exact QFnExactStackRoot.sr_short k A c l B d s x W e0 n0 e1 n1 h1 h2
    · exact QFnExactStackRoot.sr_walk k A c l B d s x t p' m q0 q1 q t1 W e0 n0 e1 n1 h1 h2 h3 h4 h5 h6 h7 h8 h9 h10 h11 h12 h13 h14
  subst he
  exact ⟨_, rfl, _, _, _, [], _, [], hW', trodAll_mk1 (shut_bool Try.underlying4 _), (trodAll_cons_mk (Below.trod laidOut (by kernel_rfl) (of_decide_eq_true (by kernel_rfl)) k0 bel lt0) trodAll_mk0), rfl, bel.frame _, fun h => by cases h⟩
theorem over : Rows.fnExactStackRootRow.holds Try.pinned (OpenSpec.ofChange Rows.fnExactStackRootSpec) :=
  OpenClaim.holds_of_wide 15 Try.f15 rfl rfl rfl rfl rfl rfl rfl ⟨rfl, rfl, rfl, rfl, rfl⟩ rfl rfl rfl rfl rfl (by kernel_rfl) Try.func15 (by kernel_rfl)
    (of_decide_eq_true (by kernel_rfl)) (by unfold Func.isWrapper; first | (rw [if_pos (by decide +kernel)]; kernel_rfl) | (rw [if_neg (by decide +kernel)]; exact ⟨rfl, rfl⟩))
    (fun os started H enc _ => lifted os started H enc)
theorem proved : Rows.FnExactStackRootSaid := over
#print axioms proved
end Go.Proofs.Ytjfhbmbiegccnaa.fnExactStackRoot
namespace Go.Proofs.Ytjfhbmbiegccnaa
/-- The row, under a short name, for the claim. -/
theorem fnExactStackRoot_holds : Rows.FnExactStackRootSaid := fnExactStackRoot.proved
end Go.Proofs.Ytjfhbmbiegccnaa
