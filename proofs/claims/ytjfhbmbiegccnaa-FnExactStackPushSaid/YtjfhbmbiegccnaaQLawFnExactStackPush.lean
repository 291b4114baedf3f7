/- Walks of the functions that the law reaches, a contract for each (written by a program, after the kit's print, with the functions whose contracts are proved by hand). No conditions but those typed. -/
import Derived.Test.YtjfhbmbiegccnaaRows
import Derived.Test.YtjfhbmbiegccnaaQFnExactStackPushx9
import Derived.Test.YtjfhbmbiegccnaaPureFnExactStackPush
import Derived.Test.YtjfhbmbiegccnaaLibCells
import Derived.WalkKit
import Derived.ProofKit
import Derived.OpenShut
import Derived.ShutString
import Derived.ChangeOld
import Derived.Below
import Derived.SizedLaws
import Derived.Test.YtjfhbmbiegccnaaWSized
namespace Go.Proofs.Ytjfhbmbiegccnaa.fnExactStackPush
open Go.Proofs.YtjfhbmbiegccnaaW
open Go.ChangeShapes Go.WideShapes Go.ChangeAt Go.RowKit
open Go.ChangeMaps (open_string shut_string)
set_option linter.unusedVariables false
theorem own : ownKnob Try.prog.godebug = none := by kernel_rfl
theorem laidOut : laidOutB Try.prog = true := by kernel_rfl
set_option maxRecDepth 100000 in
theorem lifted (os : Os) (started : os.Started) (H : Type) (enc : TypeId × Value → H) :
  ReturnsInHanded {} Try.checked os 17 .any (Rows.fnExactStackPushSpec.pre6 enc Try.prog Try.f17 Rows.fnExactStackPushRow.domain false) (Rows.fnExactStackPushSpec.post enc Try.prog Try.f17 false true false false) := by
 refine returnsInHanded_of_change_sized (C := Try.checked) own started (by kernel_rfl) Try.func17
  (ChangeSpec.witness6 (enc := enc) (C := Try.checked) false ⟨#[], #[.agg #[.slice none 0 0, .slice none 0 0], .slice none 0 0], []⟩ 8 (by kernel_rfl) (by kernel_rfl) (by kernel_rfl) (by kernel_rfl)) ?_
 intro W base args ds gs before hval0 hW hcnd hsz0 _
 have hsz : (DataW.weightsEach Try.prog (Try.f17.params.toList ++ Rows.fnExactStackPushSpec.plain.varTypes Try.prog) (ds ++ gs)).all (· ≤ reachBytes) = true := hsz0
 have hval : ∀ (j : Nat) t v, Try.f17.params[j]? = some t → args[j]? = some v → Value.okWide Try.prog W .any base t v := hval0
 have hW' := hW
 obtain ⟨p, q, hA0, hV, rfl, hfz, hnd⟩ := hW
 have hA : DataW.TrodAll enc Try.prog W 0 (fun _ => true) true Try.f17.params.toList args.toList ds p := hA0
 rw [Try.params17] at hA hval hsz
 obtain ⟨v0, vs0, d0, ds0, p0, q0, hargs, rfl, rfl, h0, r0⟩ := trodAll_cons hA
 obtain ⟨v1, vs1, d1, ds1, p1, q1, rfl, rfl, rfl, h1, r1⟩ := trodAll_cons r0
 obtain ⟨rfl, rfl, rfl⟩ := trodAll_nil r1
 obtain rfl : args = #[v0, v1] := by cases args; simp_all
 obtain ⟨rfl, rfl⟩ := trodVars_none hV
 have k0 := h0
 have lt0 : ∀ x ∈ p0, x.block < W.heap.size := by obtain ⟨m, hm⟩ := k0; exact DataW.trod_lt m _ _ _ hm
 obtain ⟨u, v, y, z, fuel, rfl, _, _, hu, hv⟩ := Joins.open_agg2 Try.underlying60 (by kernel_rfl) (by kernel_rfl) (hval 0 60 v0 rfl rfl) h0
 obtain ⟨A, l, c, rfl, n0, m0, b0, e0⟩ := LibRows.open_intsV Try.underlying22 Try.underlying3 (by kernel_rfl) hu
 obtain ⟨B, s, d, rfl, n1, m1, b1, e1⟩ := LibRows.open_rowsV Try.underlying38 Try.underlying23 Try.underlying5 (by kernel_rfl) (by kernel_rfl) hv
 obtain ⟨E, eLen, eCap, rfl⟩ := okWide_slice Try.underlying23 (hval 1 23 v1 rfl rfl)
 have k1 := h1
 have lt1 : ∀ x ∈ p1, x.block < W.heap.size := by obtain ⟨m, hm⟩ := k1; exact DataW.trod_lt m _ _ _ hm
 obtain ⟨g, rfl, n2, m2, b2, e2⟩ : ∃ g : List Int, eLen = g.length ∧ g.length ≤ eCap ∧ g.length ≤ 9223372036854775807 ∧ (∀ n ∈ g, (Lit.int .u8 n).wf = true) ∧ PrintWords.Kd.C (PrintWords.Kd.int .u8) W E g.length g := by
  obtain ⟨fuel, hf⟩ := h1
  obtain ⟨a', g, c', hv', q1, q2, q3, q4⟩ := LibRows.open_intsV (v := .slice E eLen eCap) Try.underlying23 Try.underlying5 (by kernel_rfl) hf
  injection hv' with i1 i2 i3
  subst i1
  subst i2
  subst i3
  exact ⟨g, rfl, q1, q2, q3, q4⟩
 clear hA0 hval0 hsz0 hsz
 refine Calls.mono (R := fun e w' => e = .returned (.bool true) ∧ Below W.heap.size W w') ?_ fun e W' ⟨he, bel⟩ => ?_
 ·
  rcases Pure.FnExactStackPush l s g m0 m1 b1 m2 b2 with h1 | ⟨k, x, h0, h1, h2⟩ | ⟨k, x, r1, r2, r3, p1', p2', p3', q0, q1', q2', s1, s2, t0, t1, h0, h1, h2, h3, h4, h5, h6, h7, h8, h9, h10, h11, h12, h13, h14, h15, h16, h17, h18, h19⟩
  ·
   exact QFnExactStackPush.sp_big 0 A c l B d s E eCap g W e0 n0 e1 n1 e2 n2 h1
  ·
   exact QFnExactStackPush.sp_short k A c l B d s E eCap g x W e0 n0 e1 n1 e2 n2 h0 h1 h2
  ·
   exact QFnExactStackPush.sp_walk k A c l B d s E eCap g x r1 r2 r3 p1' p2' p3' q0 q1' q2' s1 s2 t0 t1 W e0 n0 e1 n1 e2 n2 h0 h1 h2 h3 h4 h5 h6 h7 h8 h9 h10 h11 h12 h13 h14 h15 h16 h17 h18 h19
 subst he
 exact ⟨_, rfl, _, _, _, [], _, [], hW', trodAll_mk1 (shut_bool Try.underlying4 _), (trodAll_cons_mk (Below.trod laidOut (by kernel_rfl) (of_decide_eq_true (by kernel_rfl)) k0 bel lt0) (trodAll_cons_mk (Below.trod laidOut (by kernel_rfl) (of_decide_eq_true (by kernel_rfl)) k1 bel lt1) trodAll_mk0)), rfl, bel.frame _, fun h => by cases h⟩
theorem over : Rows.fnExactStackPushRow.holds Try.pinned (OpenSpec.ofChange Rows.fnExactStackPushSpec) :=
 OpenClaim.holds_of_wide 17 Try.f17 rfl rfl rfl rfl rfl rfl rfl ⟨rfl, rfl, rfl, rfl, rfl⟩ rfl rfl rfl rfl rfl (by kernel_rfl) Try.func17 (by kernel_rfl)
  (of_decide_eq_true (by kernel_rfl)) (by unfold Func.isWrapper; first | (rw [if_pos (by decide +kernel)]; kernel_rfl) | (rw [if_neg (by decide +kernel)]; exact ⟨rfl, rfl⟩))
  (fun os started H enc _ => lifted os started H enc)
theorem proved : Rows.FnExactStackPushSaid := over
#print axioms proved
end Go.Proofs.Ytjfhbmbiegccnaa.fnExactStackPush
namespace Go.Proofs.Ytjfhbmbiegccnaa
/-- The row, under a short name, for the claim. -/
theorem fnExactStackPush_holds : Rows.FnExactStackPushSaid := fnExactStackPush.proved
end Go.Proofs.Ytjfhbmbiegccnaa
