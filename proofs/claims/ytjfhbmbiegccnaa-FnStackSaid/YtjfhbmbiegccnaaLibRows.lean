/- Slices of slices that came in, as lists of lists. No conditions but those typed. -/
import Derived.Test.YtjfhbmbiegccnaaLib
import Derived.Deep.Matrix
set_option linter.unusedVariables false
namespace Go.Proofs.Ytjfhbmbiegccnaa.LibRows
open Go.Deep Go.RowKit Go.Proofs.YtjfhbmbiegccnaaW.PrintWords Go.Proofs.YtjfhbmbiegccnaaW.PrintLast Go.Proofs.YtjfhbmbiegccnaaW.PrintMore

/-- The rows of a slice of slices, read. -/
theorem rows_C {w : World} {k : IntKind} {e len cap : Nat} {a : Addr} {A : Nat → Option Addr} {L C : Nat → Nat} {Z : Nat → List Int} (hl : len ≤ cap) (hm : cap ≤ maxLen)
  (h : ∀ r, r < cap → w.cell? (a.add r) = some (.slice (A r) (L r) (C r)) ∧ L r ≤ C r ∧ C r ≤ maxLen ∧ (Z r).length = C r ∧ (A r = none → C r = 0) ∧ ∀ a', A r = some a' → ∀ c, c < C r → w.cell? (a'.add c) = some (.int k ((Z r).getD c 0))) :
  Kd.C (Kd.slice e (Kd.int k)) w (some a) len ((List.range len).map fun r => (Z r).take (L r)) := by
 have hx : maxLen = 9223372036854775807 := rfl
 refine ⟨by simp, by omega, fun _ => ⟨a, rfl, fun j p hp => ?_⟩⟩
 rw [List.getElem?_map] at hp
 obtain ⟨q, hq, rfl⟩ := Option.map_eq_some_iff.1 hp
 obtain ⟨hj, rfl⟩ := List.getElem?_eq_some_iff.1 hq
 rw [List.getElem_range]
 rw [List.length_range] at hj
 obtain ⟨c1, c2, c3, c4, c5, c6⟩ := h j (by omega)
 have hlen : ((Z j).take (L j)).length = L j := by rw [List.length_take]; omega
 refine ⟨[.slice (A j) ((Z j).take (L j)).length (C j)], rfl, ⟨A j, C j, rfl, by omega, ?_⟩, fun i u hu => ?_⟩
 ·
  refine Kd.C_of_reads (enc := Value.int k) (d := (0 : Int)) (h1 := fun _ => rfl) ⟨rfl, by omega, fun hn => ?_⟩
  cases ha : A j with
  | none =>
   have := c5 ha
   omega
  | some a' =>
   refine ⟨a', rfl, fun i hi => ?_⟩
   rw [c6 a' ha i (by omega)]
   congr 2
   rw [List.getD_eq_getElem?_getD, List.getD_eq_getElem?_getD, List.getElem?_take_of_lt (by omega)]
 ·
  cases i with
  | zero =>
   obtain rfl := Option.some.inj hu
   show w.cell? (a.add (j * 1 + 0)) = _
   rw [Nat.mul_one, Nat.add_zero, hlen]
   exact c1
  | succ i => cases hu

/-- A slice of slices of whole numbers that came in. -/
theorem open_rows {H : Type} {enc : TypeId × Value → H} {P : Program} {w : World} {base : Nat} {held : Bool} {t e q : TypeId} {k : IntKind} {fuel len cap : Nat} {a : Option Addr} {x : DataW H × List MemPlace} (ht : P.underlying t = some (.slice e)) (he : P.underlying e = some (.slice q)) (hq : P.underlying q = some (.int k))
  (ce : P.cellsOf e = 1) (cq : P.cellsOf q = 1) (h : DataW.trod enc P w base (fun _ => true) held fuel t (Value.cells (.slice a len cap)).toList = some x) :
  ∃ l : List (List Int), len = l.length ∧ l.length ≤ cap ∧ l.length ≤ 9223372036854775807 ∧ (∀ r ∈ l, r.length ≤ 9223372036854775807 ∧ ∀ n ∈ r, (Lit.int k n).wf = true) ∧ Kd.C (Kd.slice q (Kd.int k)) w a l.length l := by
 have hx : maxLen = 9223372036854775807 := rfl
 rcases open_int_rows ht he hq ce cq h with ⟨hcs, _⟩ | ⟨b, m, c, A, L, C, Z, hcs, _, hl, hm, _, hc⟩
 ·
  simp [Value.cells] at hcs
  obtain ⟨rfl, rfl, rfl⟩ := hcs
  exact ⟨[], rfl, Nat.zero_le _, Nat.zero_le _, ⟨fun r hr => (nomatch hr), ⟨rfl, Nat.zero_le _, fun hn => absurd hn (Nat.lt_irrefl 0)⟩⟩⟩
 ·
  simp [Value.cells] at hcs
  obtain ⟨rfl, rfl, rfl⟩ := hcs
  have hlen : ((List.range len).map fun r => (Z r).take (L r)).length = len := by simp
  refine ⟨(List.range len).map fun r => (Z r).take (L r), hlen.symm, by omega, by omega, fun r hr => ?_, ?_⟩
  ·
   obtain ⟨j, hj, rfl⟩ := List.mem_map.1 hr
   have hj' := List.mem_range.1 hj
   obtain ⟨_, c2, c3, c4, c5, _⟩ := hc j (by omega)
   exact ⟨by rw [List.length_take]; omega, fun n hn => c5 n (List.mem_of_mem_take hn)⟩
  ·
   rw [hlen]
   refine rows_C (A := A) (C := C) hl hm fun r hr => ?_
   obtain ⟨c1, c2, c3, c4, _, c6, c7⟩ := hc r hr
   exact ⟨c1, c2, c3, c4, c6, fun a' ha => (c7 a' ha).2⟩
end Go.Proofs.Ytjfhbmbiegccnaa.LibRows
