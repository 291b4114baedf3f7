/- Plain lemmas on answers that come after enough rounds, on wraps, lists and marks; no program in sight. No conditions. -/
import Derived.Test.YtjfhbmbiegccnaaWMore
import Derived.Laws.BitsLemmas
import Derived.Test.YtjfhbmbiegccnaaWSized
set_option linter.unusedVariables false
set_option linter.unusedSimpArgs false
/-! The printed rows name this word without its seat's own name ahead. -/
namespace Go.Proofs.Ytjfhbmbiegccnaa.PrintWords
abbrev sized_ints := @Go.Proofs.YtjfhbmbiegccnaaW.PrintWords.sized_ints
end Go.Proofs.Ytjfhbmbiegccnaa.PrintWords
namespace Go.Proofs.Ytjfhbmbiegccnaa.Lib
open Go.RowKit Go.Proofs.YtjfhbmbiegccnaaW.PrintWords Go.Proofs.YtjfhbmbiegccnaaW.PrintLast Go.Proofs.YtjfhbmbiegccnaaW.PrintMore

/-! ### answers after enough rounds -/
theorem ev_pos {α : Type} {c : Prop} [Decidable c] {g f : Nat → Option α} {r : α} (h : c) (e : Ev g r) : Ev (fun k => if c then g k else f k) r := by
 simpa only [if_pos h] using e
theorem ev_neg {α : Type} {c : Prop} [Decidable c] {g f : Nat → Option α} {r : α} (h : ¬ c) (e : Ev f r) : Ev (fun k => if c then g k else f k) r := by
 simpa only [if_neg h] using e
theorem ev_ite {α : Type} {c : Prop} [Decidable c] {g f : Nat → Option α} {r s : α} (e : c → Ev g r) (e' : ¬ c → Ev f s) : Ev (fun k => if c then g k else f k) (if c then r else s) := by
 by_cases h : c
 ·
  simpa only [if_pos h] using e h
 ·
  simpa only [if_neg h] using e' h
theorem ev_cond {α : Type} {c : Prop} [Decidable c] {g f : Nat → Option α} {r : α} (e : c → Ev g r) (e' : ¬ c → Ev f r) : Ev (fun k => if c then g k else f k) r := by
 by_cases h : c
 ·
  simpa only [if_pos h] using e h
 ·
  simpa only [if_neg h] using e' h
theorem ev_bind0 {α β : Type} {a : Option α} {f : Nat → α → Option β} {x : α} {r : β} (h : a = some x) (k : Ev (fun n => f n x) r) : Ev (fun n => a.bind (f n)) r := by
 subst h
 simpa only [Option.bind_some] using k
theorem ev_some {α : Type} {x r : α} (h : x = r) : Ev (fun _ => some x) r := by
 subst h
 exact Ev.now _
theorem ev_eq {α : Type} {g : Nat → Option α} {r s : α} (h : r = s) (e : Ev g r) : Ev g s := h ▸ e
theorem ev_unique {α : Type} {g : Nat → Option α} {r s : α} (h : Ev g r) (h' : Ev g s) : r = s := by
 obtain ⟨K, h⟩ := h
 obtain ⟨K', h'⟩ := h'
 have a := h (max K K') (by omega)
 have b := h' (max K K') (by omega)
 rw [a] at b
 exact Option.some.inj b

/-! ### a bind and a test, taken from their heads alone ('attribute [local congr]') -/
theorem bind_at {α β : Type} (a : α) (f : α → Option β) : (some a).bind f = f a := by rw [Option.bind_some]
theorem bind_lazy {α β : Type} {a a' : Option α} {f : α → Option β} (h : a = a') : a.bind f = a'.bind f := by rw [h]
theorem ite_lazy {α : Type} {c c' : Prop} [Decidable c] [d : Decidable c'] {a b : α} (h : c = c') : (if c then a else b) = (if c' then a else b) := by
 subst h
 congr

/-! ### wraps -/
theorem wrap_in {n : Int} (h0 : -9223372036854775808 ≤ n) (h1 : n ≤ 9223372036854775807) : wrap64 n = n := by
 unfold wrap64
 omega
theorem wrap_nat {n : Nat} (h : n ≤ 9223372036854775807) : wrap64 (n : Int) = (n : Int) := wrap_in (by omega) (by omega)
theorem wrap_succ {n : Nat} (h : n < 9223372036854775807) : wrap64 ((n : Int) + 1) = ((n + 1 : Nat) : Int) := by
 rw [wrap_in (by omega) (by omega)]
 omega
theorem wf_i64 {n : Int} : (Lit.int .i64 n).wf = true ↔ -9223372036854775808 ≤ n ∧ n ≤ 9223372036854775807 := by
 simp [Lit.wf, IntKind.min, IntKind.max, IntKind.signed, IntKind.bits]
theorem wf_u8 {n : Int} : (Lit.int .u8 n).wf = true ↔ 0 ≤ n ∧ n ≤ 255 := by
 simp [Lit.wf, IntKind.min, IntKind.max, IntKind.signed, IntKind.bits]
def Bytes (l : List Int) : Prop := ∀ x ∈ l, 0 ≤ x ∧ x ≤ 255
theorem bytes_of_wf {l : List Int} (h : ∀ x ∈ l, (Lit.int .u8 x).wf = true) : Bytes l := fun x hx => wf_u8.1 (h x hx)
theorem Bytes.nil : Bytes [] := fun x hx => by cases hx
theorem Bytes.app {a b : List Int} (h : Bytes a) (k : Bytes b) : Bytes (a ++ b) := fun x hx => (List.mem_append.1 hx).elim (h x) (k x)
theorem Bytes.cons {a : Int} {b : List Int} (h0 : 0 ≤ a) (h1 : a ≤ 255) (k : Bytes b) : Bytes (a :: b) := fun x hx => by
 rcases List.mem_cons.1 hx with rfl | hx
 ·
  exact ⟨h0, h1⟩
 ·
  exact k x hx
theorem Bytes.one {a : Int} (h0 : 0 ≤ a) (h1 : a ≤ 255) : Bytes [a] := Bytes.cons h0 h1 Bytes.nil
theorem Bytes.take {l : List Int} (h : Bytes l) (n : Nat) : Bytes (l.take n) := fun x hx => h x (List.mem_of_mem_take hx)
theorem Bytes.drop {l : List Int} (h : Bytes l) (n : Nat) : Bytes (l.drop n) := fun x hx => h x (List.mem_of_mem_drop hx)
theorem Bytes.val {l : List Int} (h : Bytes l) (i : Int) : 0 ≤ rd l i ∧ rd l i ≤ 255 := by
 unfold rd
 rw [List.getD_eq_getElem?_getD]
 by_cases hi : i.toNat < l.length
 ·
  rw [List.getElem?_eq_getElem hi]
  exact h _ (List.getElem_mem hi)
 ·
  rw [List.getElem?_eq_none (by omega)]
  simp
theorem Bytes.set {l : List Int} (h : Bytes l) (i : Nat) {x : Int} (h0 : 0 ≤ x) (h1 : x ≤ 255) : Bytes (l.set i x) := fun y hy => by
 rcases List.mem_or_eq_of_mem_set hy with hy | rfl
 ·
  exact h y hy
 ·
  exact ⟨h0, h1⟩
theorem rd_nat (l : List Int) (i : Nat) : rd l (i : Int) = l.getD i 0 := by simp [rd]
theorem rd_at {l : List Int} {i : Nat} (h : i < l.length) : rd l (i : Int) = l[i] := by simp [rd, h]
theorem bytes_mod {x : Int} : 0 ≤ x % 256 ∧ x % 256 ≤ 255 := by omega

/-! ### marks: a, a + 1, .. as bytes or as numbers -/
def marks (a : Int) (n : Nat) : List Int := (List.range n).map fun i : Nat => (a + (i : Int)) % 256
def marksI (a : Int) (n : Nat) : List Int := (List.range n).map fun i : Nat => a + (i : Int)
theorem marks_length (a : Int) (n : Nat) : (marks a n).length = n := by simp [marks]
theorem marksI_length (a : Int) (n : Nat) : (marksI a n).length = n := by simp [marksI]
theorem marks_at (a : Int) (n : Nat) {i : Nat} (h : i < n) : rd (marks a n) (i : Int) = (a + (i : Int)) % 256 := by
 simp [rd, marks, h]
theorem marksI_at (a : Int) (n : Nat) {i : Nat} (h : i < n) : rd (marksI a n) (i : Int) = a + (i : Int) := by
 simp [rd, marksI, h]
theorem set_take_succ {α : Type} (ys zs : List α) (i : Nat) (hy : i < ys.length) (hz : i < zs.length) (h : ys.take i = zs.take i) : (ys.set i zs[i]).take (i + 1) = zs.take (i + 1) := by
 rw [List.take_succ_eq_append_getElem (by simpa using hy), List.take_succ_eq_append_getElem hz, List.take_set_of_le (Nat.le_refl _), h]
 simp
/-! ### bits -/
def bitOf (l : List Int) (i : Int) : Bool := decide (0 ≤ i) && decide (i < 8 * (l.length : Int)) && (rd l (i / 8) / 2 ^ (i % 8).toNat % 2 == 1)
theorem shr_small8 {k : IntKind} (x y : Int) (h0 : 0 ≤ y) (h1 : y < 8) (hk : 8 ≤ k.bits) : shr k x y = x / 2 ^ y.toNat := by
 unfold shr
 rw [Nat.min_eq_left (by omega)]
/-! ### numbers in seven bits each -/
def varBytes (n : Nat) : List Int := if h : n < 128 then [(n : Int)] else ((n : Int) % 128 + 128) :: varBytes (n / 128)
termination_by n
theorem varBytes_small {n : Nat} (h : n < 128) : varBytes n = [(n : Int)] := by
 rw [varBytes, dif_pos h]
theorem varBytes_big {n : Nat} (h : ¬ n < 128) : varBytes n = ((n : Int) % 128 + 128) :: varBytes (n / 128) := by
 rw [varBytes, dif_neg h]
theorem log2_128 {n : Nat} (h : 128 ≤ n) : (n / 128).log2 + 7 = n.log2 := by
 have : n / 128 = n / 2 / 2 / 2 / 2 / 2 / 2 / 2 := by omega
 rw [this]
 have st : ∀ m : Nat, 2 ≤ m → m.log2 = (m / 2).log2 + 1 := fun m hm => by
  rw [Nat.log2_def, if_pos hm]
 rw [st n (by omega), st (n / 2) (by omega), st (n / 2 / 2) (by omega), st (n / 2 / 2 / 2) (by omega), st (n / 2 / 2 / 2 / 2) (by omega), st (n / 2 / 2 / 2 / 2 / 2) (by omega), st (n / 2 / 2 / 2 / 2 / 2 / 2) (by omega)]
theorem varBytes_length (n : Nat) : (varBytes n).length ≤ n.log2 + 1 := by
 induction n using Nat.strongRecOn with
 | ind n ih =>
  by_cases h : n < 128
  ·
   rw [varBytes_small h]; simp
  ·
   rw [varBytes_big h]
   have := ih (n / 128) (by omega)
   have := log2_128 (n := n) (by omega)
   simp
   omega
theorem varBytes_bytes (n : Nat) : Bytes (varBytes n) := by
 induction n using Nat.strongRecOn with
 | ind n ih =>
  by_cases h : n < 128
  ·
   rw [varBytes_small h]; exact Bytes.one (by omega) (by omega)
  ·
   rw [varBytes_big h]; exact Bytes.cons (by omega) (by omega) (ih _ (by omega))
theorem varBytes_pos (n : Nat) : 1 ≤ (varBytes n).length := by
 by_cases h : n < 128
 ·
  rw [varBytes_small h]; simp
 ·
  rw [varBytes_big h]; simp
end Go.Proofs.Ytjfhbmbiegccnaa.Lib
