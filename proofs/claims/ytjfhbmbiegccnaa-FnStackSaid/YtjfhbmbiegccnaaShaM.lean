/- Rows of bytes that a call made, each in a block of its own: what a store into one row leaves of the others. No conditions but those typed. -/
import Derived.Test.YtjfhbmbiegccnaaWMore
namespace Go.Proofs.Ytjfhbmbiegccnaa.ShaBase
open Go.RowKit Go.Proofs.YtjfhbmbiegccnaaW.PrintWords Go.Proofs.YtjfhbmbiegccnaaW.PrintLast Go.Proofs.YtjfhbmbiegccnaaW.PrintMore
set_option linter.unusedVariables false
set_option linter.unusedSimpArgs false
/-- The rows, one by one: their values and what they read as. -/
structure RowsAt (w : World) (base : Nat) (P : Nat → Prop) (g : Nat) (f : Nat → Nat) (inner : List Value) (cur : List (List Int)) : Prop where
 len : inner.length = cur.length
 row : ∀ j x, cur[j]? = some x → ∃ v, inner[j]? = some v ∧ (Kd.int .u8).R 5 w base (fun k => (P k ∧ k ≠ g) ∧ f k = j) v x
theorem rows_open {w : World} {base : Nat} {P : Nat → Prop} {v : Value} {xs : List (List Int)} (h : Kd.S (Kd.slice 5 (Kd.int .u8)) 23 w base P v xs) :
  (v = .slice none 0 0 ∧ xs = []) ∨ ∃ g c cells f inner, v = .slice (some ⟨g, 0, none⟩) xs.length c ∧ base ≤ g ∧ P g ∧ w.heap[g]? = some (.cells cells 23 (0, 0)) ∧ xs.length ≤ c ∧ c ≤ maxLen ∧ cells.size = c ∧ cells.toList.take xs.length = inner ∧ RowsAt w base P g f inner xs := by
 obtain ⟨f, h0, inner, ho, hr⟩ := h
 rw [List.length_zipIdx] at ho
 obtain ⟨hl, hc⟩ := ho
 have hl1 : inner.length = xs.length := by simpa [Kd.tag, Kd.slice] using hl
 rcases hc with ⟨rfl, hn⟩ | ⟨g, c, cells, rfl, hg, hh, hle, hmax, hsz, htake⟩
 ·
  exact .inl ⟨rfl, List.eq_nil_of_length_eq_zero hn⟩
 ·
  refine .inr ⟨g, c, cells, f, inner, rfl, hg, h0 g (by simp [Value.ownBlock]), hh, hle, hmax, by simpa [Kd.tag, Kd.slice] using hsz, by simpa [Kd.tag, Kd.slice] using htake, ⟨hl1, fun j x hj => ?_⟩⟩
  have hm := hr.2 j (x, j) (Kd.zip_at hj)
  obtain ⟨v', hv', hR⟩ := hm
  have hjl : j < inner.length := by rw [hl1]; exact (List.getElem?_eq_some_iff.1 hj).1
  have e1 : (inner.drop j).take 1 = [v'] := by simpa [Kd.tag, Kd.slice] using hv'
  rw [List.drop_eq_getElem_cons hjl, List.take_succ_cons] at e1
  refine ⟨v', ?_, Kd.R_mono hR (fun k hk => ⟨⟨hk.1.1, fun e => hk.1.2 (by simp [Value.ownBlock, e])⟩, hk.2⟩)⟩
  rw [List.getElem?_eq_getElem hjl]
  exact congrArg some (List.cons.inj e1).1
theorem rows_close {w : World} {base : Nat} {P : Nat → Prop} {xs : List (List Int)} {g c : Nat} {cells : Array Value} {f : Nat → Nat} {inner : List Value} (hg : base ≤ g) (hP : P g) (hh : w.heap[g]? = some (.cells cells 23 (0, 0))) (hle : xs.length ≤ c) (hmax : c ≤ maxLen) (hsz : cells.size = c) (htake : cells.toList.take xs.length = inner) (hrow : RowsAt w base P g f inner xs) :
  Kd.S (Kd.slice 5 (Kd.int .u8)) 23 w base P (.slice (some ⟨g, 0, none⟩) xs.length c) xs := by
 refine ⟨f, ?_, inner, ?_, ?_⟩
 ·
  intro k hk
  have : g = k := by simpa [Value.ownBlock] using hk
  subst this
  exact hP
 ·
  rw [List.length_zipIdx]
  exact ⟨by simpa [Kd.tag, Kd.slice] using hrow.len, .inr ⟨g, c, cells, rfl, hg, hh, hle, hmax, by simpa [Kd.tag, Kd.slice] using hsz, by simpa [Kd.tag, Kd.slice] using htake⟩⟩
 ·
  refine ⟨by rw [List.length_zipIdx]; simpa [Kd.tag, Kd.slice] using hrow.len, fun j p hj => ?_⟩
  rw [List.getElem?_zipIdx] at hj
  obtain ⟨x, hx, rfl⟩ := Option.map_eq_some_iff.1 hj
  obtain ⟨v', hv', hR⟩ := hrow.row j x hx
  have hjl : j < inner.length := (List.getElem?_eq_some_iff.1 hv').1
  rw [List.getElem?_eq_getElem hjl] at hv'
  refine ⟨v', ?_, Kd.R_mono hR (fun k hk => ⟨⟨hk.1.1, fun e => hk.1.2 (by simpa [Value.ownBlock] using e)⟩, by simpa using hk.2⟩)⟩
  have e1 : (inner.drop j).take 1 = [v'] := by
   rw [List.drop_eq_getElem_cons hjl, List.take_succ_cons, Option.some.inj hv', List.take_zero]
  simpa [Kd.tag, Kd.slice] using e1
/-- One row has been written: the others are as they were. -/
theorem rows_set {w w' : World} {base : Nat} {P : Nat → Prop} {g : Nat} {f : Nat → Nat} {inner : List Value} {pre rest : List (List Int)} {x y : List Int} {v : Value} (h : RowsAt w base P g f inner (pre ++ x :: rest)) (hv : inner[pre.length]? = some v)
  (hR : (Kd.int .u8).R 5 w base (fun k => (P k ∧ k ≠ g) ∧ f k = pre.length) v x) (ok' : Nat → Prop) (hR' : (Kd.int .u8).R 5 w' base ok' v y) (hk : Kept w w' (fun k => some k = v.ownBlock)) : RowsAt w' base P g f inner ((pre ++ [y]) ++ rest) := by
 refine ⟨by have := h.len; simp at this ⊢; omega, fun j z hj => ?_⟩
 by_cases e : j = pre.length
 ·
  subst e
  have : z = y := by
   rw [List.append_assoc, List.getElem?_append_right (Nat.le_refl _)] at hj
   simpa using hj.symm
  subst this
  exact ⟨v, hv, Kd.R_reok rfl hR' (fun k hk' => hR.1 k hk')⟩
 ·
  have hj2 : (pre ++ x :: rest)[j]? = some z := by
   rw [← hj, List.append_assoc]
   rcases Nat.lt_or_ge j pre.length with hlt | hge
   ·
    rw [List.getElem?_append_left hlt, List.getElem?_append_left hlt]
   ·
    rw [List.getElem?_append_right hge, List.getElem?_append_right hge]
    obtain ⟨m, hm⟩ : ∃ m, j - pre.length = m + 1 := ⟨j - pre.length - 1, by omega⟩
    rw [hm]
    simp
  obtain ⟨u, hu, hRu⟩ := h.row j z hj2
  refine ⟨u, hu, Kd.R_kept hRu hk (fun k hok hS => ?_)⟩
  have := hR.1 k hS.symm
  exact e (hok.2.symm.trans this.2)
end Go.Proofs.Ytjfhbmbiegccnaa.ShaBase
