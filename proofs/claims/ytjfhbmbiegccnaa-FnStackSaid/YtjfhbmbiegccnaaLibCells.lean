/- Values of a slice's type that came in, cell by cell (a struct's fields), as lists. No conditions but those typed. -/
import Derived.Test.YtjfhbmbiegccnaaLibRows
import Derived.Lib.SmallJoins
set_option linter.unusedVariables false
namespace Go.Proofs.Ytjfhbmbiegccnaa.LibRows
open Go.Deep Go.RowKit Go.ChangeShapes Go.Proofs.YtjfhbmbiegccnaaW.PrintWords Go.Proofs.YtjfhbmbiegccnaaW.PrintLast Go.Proofs.YtjfhbmbiegccnaaW.PrintMore

theorem open_rowsV {H : Type} {enc : TypeId × Value → H} {P : Program} {w : World} {base : Nat} {held : Bool} {t e q : TypeId} {k : IntKind} {fuel : Nat} {v : Value} {x : DataW H × List MemPlace} (ht : P.underlying t = some (.slice e)) (he : P.underlying e = some (.slice q)) (hq : P.underlying q = some (.int k))
  (ce : P.cellsOf e = 1) (cq : P.cellsOf q = 1) (h : DataW.trod enc P w base (fun _ => true) held fuel t [v] = some x) :
  ∃ (a : Option Addr) (l : List (List Int)) (c : Nat), v = .slice a l.length c ∧ l.length ≤ c ∧ l.length ≤ 9223372036854775807 ∧ (∀ r ∈ l, r.length ≤ 9223372036854775807 ∧ ∀ n ∈ r, (Lit.int k n).wf = true) ∧ Kd.C (Kd.slice q (Kd.int k)) w a l.length l := by
 have hs : ∃ a len c, v = .slice a len c := by
  rcases open_int_rows ht he hq ce cq h with ⟨hcs, _⟩ | ⟨b, m, c, A, L, C, Z, hcs, _⟩
  ·
   exact ⟨none, 0, 0, by simpa using hcs⟩
  ·
   exact ⟨some b, m, c, by simpa using hcs⟩
 obtain ⟨a, len, c, rfl⟩ := hs
 obtain ⟨l, rfl, h1, h2, h3, h4⟩ := open_rows (len := len) (cap := c) (a := a) ht he hq ce cq h
 exact ⟨a, l, c, rfl, h1, h2, h3, h4⟩

theorem open_intsV {H : Type} {enc : TypeId × Value → H} {P : Program} {w : World} {base : Nat} {held : Bool} {t e : TypeId} {k : IntKind} {fuel : Nat} {v : Value} {x : DataW H × List MemPlace} (ht : P.underlying t = some (.slice e)) (he : P.underlying e = some (.int k))
  (ce : P.cellsOf e = 1) (h : DataW.trod enc P w base (fun _ => true) held fuel t [v] = some x) :
  ∃ (a : Option Addr) (l : List Int) (c : Nat), v = .slice a l.length c ∧ l.length ≤ c ∧ l.length ≤ 9223372036854775807 ∧ (∀ n ∈ l, (Lit.int k n).wf = true) ∧ Kd.C (Kd.int k) w a l.length l := by
 have hs : ∃ a len c zs, v = .slice a len c ∧ ((a = none ∧ len = 0 ∧ c = 0 ∧ zs = []) ∨ ∃ x, a = some x ∧ len ≤ c ∧ c ≤ maxLen ∧ zs.length = c ∧ (∀ i, i < zs.length → w.cell? (x.add i) = some (.int k (zs.getD i 0))) ∧ ∀ n ∈ zs, (Lit.int k n).wf = true) := by
  rcases open_ints ht he ce h with ⟨hcs, _⟩ | ⟨b, m, c, zs, hcs, _, hl, hm, hz, _, hcell, hwz⟩
  ·
   exact ⟨none, 0, 0, [], by simpa using hcs, .inl ⟨rfl, rfl, rfl, rfl⟩⟩
  ·
   exact ⟨some b, m, c, zs, by simpa using hcs, .inr ⟨b, rfl, hl, hm, by simpa using hz, hcell, hwz⟩⟩
 obtain ⟨a, len, c, zs, rfl, hw⟩ := hs
 obtain ⟨l, rfl, hr, hm, hwf, hc⟩ := ReadsInt.ofRowC hw
 exact ⟨a, l, c, rfl, hc, hm, hwf, Kd.C_of_reads (enc := Value.int k) (d := (0 : Int)) (h1 := fun _ => rfl) hr⟩
end Go.Proofs.Ytjfhbmbiegccnaa.LibRows
