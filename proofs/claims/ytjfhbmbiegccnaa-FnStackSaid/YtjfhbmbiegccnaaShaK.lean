/- The builtin copy onto a row of bytes of the call's own: what it leaves. No conditions but those typed. -/
import Derived.Test.YtjfhbmbiegccnaaWMore
import Derived.Laws.CopyOwn
namespace Go.Proofs.Ytjfhbmbiegccnaa.ShaBase
open Go.RowKit Go.Proofs.YtjfhbmbiegccnaaW.PrintWords Go.Proofs.YtjfhbmbiegccnaaW.PrintLast Go.Proofs.YtjfhbmbiegccnaaW.PrintMore
set_option linter.unusedVariables false
set_option linter.unusedSimpArgs false
/-- 64 numbers: those of the list, then zeros. -/
def fill64 (t : List Int) : List Int := t.take (List.replicate 64 (0 : Int)).length ++ (List.replicate 64 (0 : Int)).drop t.length
theorem copy_own {P : Program} {w0 W : World} {ops : Array Oper} {rest : List Oper} {o : Oper} {a : Act} {Q : Exit → Act → World → Prop} {k : IntKind} {e base : Nat} {ok : Nat → Prop} {v : Value} {xs ys : List Int} {A : Option Addr} {c : Nat}
  (hgd : o.guard = none) (d s : Operand) (dT sT : TypeId) (ho : o.op = .call { callee := .builtin .copy, args := #[d, s], argTypes := #[dT, sT] }) (elem : TypeId) (hu : P.underlying dT = some (.slice elem)) (hsz : (P.info? elem).map (·.size) = some 1)
  (hd : a.eval d = v) (hs : a.eval s = .slice A ys.length c) (HO : (Kd.int k).R e W base ok v xs) (HB : Below base w0 W) (HC : (Kd.int k).C W A ys.length ys)
  (h : ∀ w', (Kd.int k).R e w' base ok v (ys.take xs.length ++ xs.drop ys.length) → Below base w0 w' → wpList P ops Q rest (a.put o.dst (goInt (ys.take xs.length).length)) w') :
  wpList P ops Q (o :: rest) a W := by
 have hown := Kd.own_of_R HO
 have hR := Kd.reads_of_C (d := (0 : Int)) HC
 obtain ⟨hl, hc⟩ := hown
 rcases hc with ⟨rfl, hn⟩ | ⟨g, cap, cur, rfl, hg, hh, hcap, hmax, hcur, htake⟩
 ·
  have hx : xs = [] := List.eq_nil_of_length_eq_zero hn
  subst hx
  refine wpList_copy_nothing hgd d s dT sT ho elem hu hsz none A 0 0 ys.length c hd hs (by simp) ?_
  have := h W (by simpa using (show (Kd.int k).R e W base ok (.slice none 0 0) [] from HO)) HB
  simpa using this
 ·
  refine wpList_copy_splice hgd d s dT sT ho elem hu hsz (some ⟨g, 0, none⟩) A xs.length cap ys.length c hd hs g 0 cur.toList e (by simpa using hh) (encs (Value.int k) (ys.take xs.length)) (by simp [encs, Nat.min_comm]) ?_ ?_ ?_ base w0 HB hg ?_
  ·
   intro hpos
   have hy : 0 < ys.length := by
    have : (encs (Value.int k) (ys.take xs.length)).length ≤ ys.length := by simp [encs]; omega
    omega
   obtain ⟨ad, ea, hcell⟩ := hR.2.2 hy
   refine ⟨rfl, ad, ea, fun j v hv => ?_⟩
   have hj : j < (ys.take xs.length).length := by
    have := (List.getElem?_eq_some_iff.1 hv).1
    simpa [encs] using this
   have hj2 : j < ys.length := by simp at hj; omega
   rw [hcell j hj2, ← hv]
   have hj3 : j < xs.length := by simp at hj; omega
   simp [encs, List.getElem?_take, hj3, List.getElem?_eq_getElem hj2]
  ·
   have : (encs (Value.int k) (ys.take xs.length)).length ≤ xs.length := by simp [encs]; omega
   have e2 : cur.toList.length = cap := by simpa using hcur
   omega
  ·
   intro v hv
   simp only [encs, List.mem_map] at hv
   obtain ⟨x, _, rfl⟩ := hv
   rfl
  ·
   intro w' hw' hb'
   have e1 : (encs (Value.int k) (ys.take xs.length)).length = (ys.take xs.length).length := by simp [encs]
   rw [e1]
   refine h w' (Kd.R_of_own (h1 := fun _ => rfl) ⟨by simp [encs], .inr ⟨g, cap, _, ?_, hg, hw'.out, ?_, hmax, ?_, ?_⟩⟩ HO.1) hb'
   ·
    congr 1
    simp
    omega
   ·
    simp
    omega
   ·
    have e2 : cur.toList.length = cap := by simpa using hcur
    simp [splice, encs] at e2 ⊢
    omega
   ·
    have e2 : cur.toList.take xs.length = encs (Value.int k) xs := by simpa using htake
    have e3 : (ys.take xs.length ++ xs.drop ys.length).length = xs.length := by simp; omega
    rw [e3, Nat.mul_one]
    simp only [splice, List.take_zero, List.nil_append, Nat.zero_add]
    have e4 : encs (Value.int k) (ys.take xs.length ++ xs.drop ys.length) = encs (Value.int k) (ys.take xs.length) ++ (encs (Value.int k) xs).drop ys.length := by simp [encs, List.map_drop]
    rw [e4, List.take_append, ← e2]
    congr 1
    ·
     rw [List.take_of_length_le]
     simp [encs]
     omega
    ·
     rw [List.drop_take]
     by_cases hle : ys.length ≤ xs.length
     ·
      congr 1
      ·
       simp [encs]; omega
      ·
       congr 1
       simp [encs]; omega
     ·
      have z1 : xs.length - (encs (Value.int k) (ys.take xs.length)).length = 0 := by simp [encs]; omega
      have z2 : xs.length - ys.length = 0 := by omega
      rw [z1, z2]
      simp
end Go.Proofs.Ytjfhbmbiegccnaa.ShaBase
