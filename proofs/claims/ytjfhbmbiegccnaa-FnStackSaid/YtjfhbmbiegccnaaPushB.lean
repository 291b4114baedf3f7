/- One row of a slice of rows of one's own is replaced by a new one. No conditions but those typed. -/
import Derived.Test.YtjfhbmbiegccnaaPushA
namespace Go.Proofs.Ytjfhbmbiegccnaa.ShaBase
open Go.RowKit Go.Proofs.YtjfhbmbiegccnaaW.PrintWords Go.Proofs.YtjfhbmbiegccnaaW.PrintLast Go.Proofs.YtjfhbmbiegccnaaW.PrintMore
set_option linter.unusedVariables false
theorem S_put1 {w : World} {base : Nat} {ok okp : Nat → Prop} {g n c : Nat} {xs : List (List Int)} {v : Value} {t : List Int} (h : Kd.S (Kd.slice 5 (Kd.int .u8)) 23 w base (fun k => ok k ∧ some k ≠ v.ownBlock) (.slice (some ⟨g, 0, none⟩) n c) xs) (i : Int) (h0 : 0 ≤ i) (h1 : i < (n : Int)) (hv : Kd.R (Kd.int .u8) 5 w base okp v t) (hp : ∀ k, okp k → ok k ∧ k ≠ g) :
    Kd.S (Kd.slice 5 (Kd.int .u8)) 23 (w.setCell ⟨g, i.toNat, none⟩ v) base ok (.slice (some ⟨g, 0, none⟩) n c) (xs.set i.toNat t) := by
  have h2 : Kd.S (Kd.slice 5 (Kd.int .u8)) 23 w base (fun k => ok k ∧ ¬ (some k = v.ownBlock)) (.slice (some ⟨g, 0, none⟩) n c) xs := Kd.S_mono h (fun k hk => ⟨hk.1, hk.2⟩)
  obtain ⟨oki, ce, hcl, hM, hcc, hfr, hoki, hH⟩ := Kd.S_elem h2 [] i h0 h1
  have e : ce.take 0 ++ [v] ++ ce.drop (0 + [v].length) = [v] := by
    have hl : ce.length ≤ 0 + [v].length := Nat.le_of_eq hcl
    rw [List.drop_eq_nil_of_le hl]
    simp
  have hq := (Kd.S_seg (okg := fun k => some k = v.ownBlock) (okp := fun k => some k = v.ownBlock) hH h0 h1 (seg := [v]) (j := 0) (Nat.le_refl 1) (x' := t) (by rw [e]; exact ⟨v, rfl, Kd.R_tight rfl hv⟩) (fun k hk => .inr hk) (fun k hk => hp k (hv.1 k hk.symm))).1
  have es : w.setCells g (i.toNat * (Kd.slice 5 (Kd.int .u8)).sz + 0) [v] = w.setCell ⟨g, i.toNat, none⟩ v := by
    rw [show (Kd.slice 5 (Kd.int .u8)).sz = 1 from rfl, Nat.mul_one, Nat.add_zero]
    rfl
  rw [es] at hq
  exact hq
end Go.Proofs.Ytjfhbmbiegccnaa.ShaBase
