/- Walks of the functions that the law reaches, a contract for each (written by a program, after the kit's print, with the functions whose contracts are proved by hand). No conditions but those typed. -/
import Derived.Test.YtjfhbmbiegccnaaRows
import Derived.Test.YtjfhbmbiegccnaaQFnExactStackOfx11
import Derived.Test.YtjfhbmbiegccnaaPureFnExactStackOf
import Derived.Test.YtjfhbmbiegccnaaLibRows
import Derived.WalkKit
import Derived.ProofKit
import Derived.OpenShut
import Derived.ShutString
import Derived.ChangeOld
import Derived.Below
import Derived.SizedLaws
import Derived.Test.YtjfhbmbiegccnaaWSized
namespace Go.Proofs.Ytjfhbmbiegccnaa.fnExactStackOf
open Go.Proofs.YtjfhbmbiegccnaaW
open Go.ChangeShapes Go.WideShapes Go.ChangeAt Go.RowKit
open Go.ChangeMaps (open_string shut_string)
set_option linter.unusedVariables false
theorem own : ownKnob Try.prog.godebug = none := by kernel_rfl
theorem laidOut : laidOutB Try.prog = true := by kernel_rfl
set_option maxRecDepth 100000 in
theorem lifted (os : Os) (started : os.Started) (H : Type) (enc : TypeId × Value → H) :
  ReturnsInHanded {} Try.checked os 16 .any (Rows.fnExactStackOfSpec.pre6 enc Try.prog Try.f16 Rows.fnExactStackOfRow.domain false) (Rows.fnExactStackOfSpec.post enc Try.prog Try.f16 false true false false) := by
 refine returnsInHanded_of_change_sized (C := Try.checked) own started (by kernel_rfl) Try.func16
  (ChangeSpec.witness6 (enc := enc) (C := Try.checked) false ⟨#[], #[.slice none 0 0], []⟩ 8 (by kernel_rfl) (by kernel_rfl) (by kernel_rfl) (by kernel_rfl)) ?_
 intro W base args ds gs before hval0 hW hcnd hsz0 _
 have hsz : (DataW.weightsEach Try.prog (Try.f16.params.toList ++ Rows.fnExactStackOfSpec.plain.varTypes Try.prog) (ds ++ gs)).all (· ≤ reachBytes) = true := hsz0
 have hval : ∀ (j : Nat) t v, Try.f16.params[j]? = some t → args[j]? = some v → Value.okWide Try.prog W .any base t v := hval0
 have hW' := hW
 obtain ⟨p, q, hA0, hV, rfl, hfz, hnd⟩ := hW
 have hA : DataW.TrodAll enc Try.prog W 0 (fun _ => true) true Try.f16.params.toList args.toList ds p := hA0
 rw [Try.params16] at hA hval hsz
 obtain ⟨v0, vs0, d0, ds0, p0, q0, hargs, rfl, rfl, h0, r0⟩ := trodAll_cons hA
 obtain ⟨rfl, rfl, rfl⟩ := trodAll_nil r0
 obtain rfl : args = #[v0] := by cases args; simp_all
 obtain ⟨rfl, rfl⟩ := trodVars_none hV
 obtain ⟨a0, len0, cap0, rfl⟩ := okWide_slice Try.underlying38 (hval 0 38 v0 rfl rfl)
 have k0 := h0
 have lt0 : ∀ x ∈ p0, x.block < W.heap.size := by obtain ⟨m, hm⟩ := k0; exact DataW.trod_lt m _ _ _ hm
 obtain ⟨l0, rfl, n0, m0, b0, e0⟩ := (by
  obtain ⟨fuel, hf⟩ := h0
  exact LibRows.open_rows Try.underlying38 Try.underlying23 Try.underlying5 (by kernel_rfl) (by kernel_rfl) hf : ∃ l : List (List Int), len0 = l.length ∧ l.length ≤ cap0 ∧ l.length ≤ 9223372036854775807 ∧ (∀ r ∈ l, r.length ≤ 9223372036854775807 ∧ ∀ n ∈ r, (Lit.int .u8 n).wf = true) ∧ PrintWords.Kd.C (PrintWords.Kd.slice 5 (PrintWords.Kd.int .u8)) W a0 l.length l)
 clear hA0 hval0 hsz0 hsz
 refine Calls.mono (R := fun e w' => e = .returned (.bool true) ∧ Below W.heap.size W w') ?_ fun e W' ⟨he, bel⟩ => ?_
 ·
  rcases Pure.FnExactStackOf l0 m0 b0 with ⟨k, s, h1, h2⟩ | ⟨k, s, r1, r2, r3, p', q0, q1, q2, t0, t1, h1, h2, h3, h4, h5, h6, h7, h8, h9, h10, h11, h12, h13, h14, h15⟩
  ·
   exact QFnExactStackOf.so_short k a0 cap0 l0 s W e0 n0 h1 h2
  ·
   exact QFnExactStackOf.so_walk k a0 cap0 l0 s r1 r2 r3 p' q0 q1 q2 t0 t1 W e0 n0 h1 h2 h3 h4 h5 h6 h7 h8 h9 h10 h11 h12 h13 h14 h15
 subst he
 exact ⟨_, rfl, _, _, _, [], _, [], hW', trodAll_mk1 (shut_bool Try.underlying4 _), (trodAll_cons_mk (Below.trod laidOut (by kernel_rfl) (of_decide_eq_true (by kernel_rfl)) k0 bel lt0) trodAll_mk0), rfl, bel.frame _, fun h => by cases h⟩
theorem over : Rows.fnExactStackOfRow.holds Try.pinned (OpenSpec.ofChange Rows.fnExactStackOfSpec) :=
 OpenClaim.holds_of_wide 16 Try.f16 rfl rfl rfl rfl rfl rfl rfl ⟨rfl, rfl, rfl, rfl, rfl⟩ rfl rfl rfl rfl rfl (by kernel_rfl) Try.func16 (by kernel_rfl)
  (of_decide_eq_true (by kernel_rfl)) (by unfold Func.isWrapper; first | (rw [if_pos (by decide +kernel)]; kernel_rfl) | (rw [if_neg (by decide +kernel)]; exact ⟨rfl, rfl⟩))
  (fun os started H enc _ => lifted os started H enc)
theorem proved : Rows.FnExactStackOfSaid := over
#print axioms proved
end Go.Proofs.Ytjfhbmbiegccnaa.fnExactStackOf
namespace Go.Proofs.Ytjfhbmbiegccnaa
/-- The row, under a short name, for the claim. -/
theorem fnExactStackOf_holds : Rows.FnExactStackOfSaid := fnExactStackOf.proved
end Go.Proofs.Ytjfhbmbiegccnaa
