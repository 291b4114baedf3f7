/- Walks of the functions that the law reaches, a contract for each (written by a program, after the kit's print, with the functions whose contracts are proved by hand). No conditions but those typed. -/
import Derived.Test.YtjfhbmbiegccnaaRows
import Derived.Test.YtjfhbmbiegccnaaQFnStackx7
import Derived.Test.YtjfhbmbiegccnaaPureFnStack
import Derived.Test.YtjfhbmbiegccnaaLibCells
import Derived.WalkKit
import Derived.ProofKit
import Derived.OpenShut
import Derived.ShutString
import Derived.ChangeOld
import Derived.Below
import Derived.SizedLaws
import Derived.Test.YtjfhbmbiegccnaaWSized
namespace Go.Proofs.Ytjfhbmbiegccnaa.fnStack
open Go.Proofs.YtjfhbmbiegccnaaW
open Go.ChangeShapes Go.WideShapes Go.ChangeAt Go.RowKit
open Go.ChangeMaps (open_string shut_string)
set_option linter.unusedVariables false
theorem own : ownKnob Try.prog.godebug = none := by kernel_rfl
theorem laidOut : laidOutB Try.prog = true := by kernel_rfl
set_option maxRecDepth 100000 in
theorem lifted (os : Os) (started : os.Started) (H : Type) (enc : TypeId × Value → H) :
  ReturnsInHanded {} Try.checked os 13 .any (Rows.fnStackSpec.pre6 enc Try.prog Try.f13 Rows.fnStackRow.domain false) (Rows.fnStackSpec.post enc Try.prog Try.f13 false true false false) := by
 refine returnsInHanded_of_change_sized (C := Try.checked) own started (by kernel_rfl) Try.func13
  (ChangeSpec.witness6 (enc := enc) (C := Try.checked) false ⟨#[], #[.slice none 0 0], []⟩ 8 (by kernel_rfl) (by kernel_rfl) (by kernel_rfl) (by kernel_rfl)) ?_
 intro W base args ds gs before hval0 hW hcnd hsz0 _
 have hsz : (DataW.weightsEach Try.prog (Try.f13.params.toList ++ Rows.fnStackSpec.plain.varTypes Try.prog) (ds ++ gs)).all (· ≤ reachBytes) = true := hsz0
 have hval : ∀ (j : Nat) t v, Try.f13.params[j]? = some t → args[j]? = some v → Value.okWide Try.prog W .any base t v := hval0
 have hW' := hW
 obtain ⟨p, q, hA0, hV, rfl, hfz, hnd⟩ := hW
 have hA : DataW.TrodAll enc Try.prog W 0 (fun _ => true) true Try.f13.params.toList args.toList ds p := hA0
 rw [Try.params13] at hA hval hsz
 obtain ⟨v0, vs0, d0, ds0, p0, q0, hargs, rfl, rfl, h0, r0⟩ := trodAll_cons hA
 obtain ⟨rfl, rfl, rfl⟩ := trodAll_nil r0
 obtain rfl : args = #[v0] := by cases args; simp_all
 obtain ⟨rfl, rfl⟩ := trodVars_none hV
 obtain ⟨a0, len0, cap0, rfl⟩ := okWide_slice Try.underlying23 (hval 0 23 v0 rfl rfl)
 have k0 := h0
 have lt0 : ∀ x ∈ p0, x.block < W.heap.size := by obtain ⟨m, hm⟩ := k0; exact DataW.trod_lt m _ _ _ hm
 obtain ⟨g, rfl, n0, m0, b0, e0⟩ : ∃ g : List Int, len0 = g.length ∧ g.length ≤ cap0 ∧ g.length ≤ 9223372036854775807 ∧ (∀ n ∈ g, (Lit.int .u8 n).wf = true) ∧ PrintWords.Kd.C (PrintWords.Kd.int .u8) W a0 g.length g := by
  obtain ⟨fuel, hf⟩ := h0
  obtain ⟨a', g, c', hv', q1, q2, q3, q4⟩ := LibRows.open_intsV (v := .slice a0 len0 cap0) Try.underlying23 Try.underlying5 (by kernel_rfl) hf
  injection hv' with i1 i2 i3
  subst i1
  subst i2
  subst i3
  exact ⟨g, rfl, q1, q2, q3, q4⟩
 clear hA0 hval0 hsz0 hsz
 refine Calls.mono (R := fun e w' => e = .returned (.bool true) ∧ Below W.heap.size W w') ?_ fun e W' ⟨he, bel⟩ => ?_
 ·
  rcases Pure.FnStack g m0 b0 with h1 | ⟨k, l, a, h, x, a2, h2, r1, r2, r0, h0, h1, h2', h3, h4, h5, h6, h7, h8, h9, h10, h11, h12, h13, h14, h15, h16, h17⟩
  ·
   exact QFnStack.fs_big 0 a0 cap0 g W e0 n0 h1
  ·
   exact QFnStack.fs_walk k a0 cap0 g l a h x a2 h2 (l.length : Int) ((l.length : Int) + 1) r1 r1 r2 r2 r0 r0 W e0 n0 h0 h1 h2' h3 h4 h5 h6 rfl h7 (by rw [Lib.wrap_in (by omega) (by omega)]) h8 h9 h10 h11 h12 h13 h14 h15 h16 (by omega)
 subst he
 exact ⟨_, rfl, _, _, _, [], _, [], hW', trodAll_mk1 (shut_bool Try.underlying4 _), (trodAll_cons_mk (Below.trod laidOut (by kernel_rfl) (of_decide_eq_true (by kernel_rfl)) k0 bel lt0) trodAll_mk0), rfl, bel.frame _, fun h => by cases h⟩
theorem over : Rows.fnStackRow.holds Try.pinned (OpenSpec.ofChange Rows.fnStackSpec) :=
 OpenClaim.holds_of_wide 13 Try.f13 rfl rfl rfl rfl rfl rfl rfl ⟨rfl, rfl, rfl, rfl, rfl⟩ rfl rfl rfl rfl rfl (by kernel_rfl) Try.func13 (by kernel_rfl)
  (of_decide_eq_true (by kernel_rfl)) (by unfold Func.isWrapper; first | (rw [if_pos (by decide +kernel)]; kernel_rfl) | (rw [if_neg (by decide +kernel)]; exact ⟨rfl, rfl⟩))
  (fun os started H enc _ => lifted os started H enc)
theorem proved : Rows.FnStackSaid := over
#print axioms proved
end Go.Proofs.Ytjfhbmbiegccnaa.fnStack
namespace Go.Proofs.Ytjfhbmbiegccnaa
/-- The row, under a short name, for the claim. -/
theorem fnStack_holds : Rows.FnStackSaid := fnStack.proved
end Go.Proofs.Ytjfhbmbiegccnaa
