/- The reference block function, as a plain function of numbers (a text of the kit's print). No conditions but those typed. -/
import Derived.Test.YtjfhbmbiegccnaaShaBase
namespace Go.Proofs.Ytjfhbmbiegccnaa.ShaBase
open Go.RowKit Go.Proofs.YtjfhbmbiegccnaaW.PrintWords Go.Proofs.YtjfhbmbiegccnaaW.PrintLast Go.Proofs.YtjfhbmbiegccnaaW.PrintMore
attribute [local go_sem] max2_int min2_int max_two min_two max_three min_three max_four min_four   -- for this text's walks alone
set_option linter.unusedVariables false
set_option linter.unusedSimpArgs false

/-! ### spec_ShaBlock: function 18 -/
mutual
def spec_ShaBlock.j0 : Nat → List Int → List Int → Bool → Option (List Int)
 | 0, _, _, _ => none
 | k + 1, x0, x1, x30 => if x30 = true then (some ([] : List Int)) else (spec_ShaBlock.l0 k x0 x1 x0 (x0.length : Int) 0)
def spec_ShaBlock.l0 : Nat → List Int → List Int → List Int → Int → Int → Option (List Int)
 | 0, _, _, _, _, _ => none
 | k + 1, x0, x1, x31, x32, x33 => if x33 < x32 then (if 0 ≤ x33 then (if x33 < (x31.length : Int) then ((spec_l04Word.f (rd x31 x33)).bind fun t106 => (if t106 = true then (spec_ShaBlock.l0 k x0 x1 x31 x32 (wrap64 (x33 + 1))) else (some ([] : List Int)))) else (none)) else (none)) else (spec_ShaBlock.l1 k x0 x1 (([] : List Int)) 0)
def spec_ShaBlock.l1 : Nat → List Int → List Int → List Int → Int → Option (List Int)
 | 0, _, _, _, _ => none
 | k + 1, x0, x1, x7, x8 => if x8 < 64 then (if 0 ≤ x8 then (if x8 < (x1.length : Int) then (if 0 ≤ (wrap64 (x8 + 1)) then (if (wrap64 (x8 + 1)) < (x1.length : Int) then (if 0 ≤ (wrap64 (x8 + 2)) then (if (wrap64 (x8 + 2)) < (x1.length : Int) then (if 0 ≤ (wrap64 (x8 + 3)) then (if (wrap64 (x8 + 3)) < (x1.length : Int) then (if x7.length < 17592186044416 then (spec_ShaBlock.l1 k x0 x1 (x7 ++ [Go.bits .or .i64 (Go.bits .or .i64 (Go.bits .or .i64 (wrap64 ((wrap64 (rd x1 x8)) * 16777216)) (wrap64 ((wrap64 (rd x1 (wrap64 (x8 + 1)))) * 65536))) (wrap64 ((wrap64 (rd x1 (wrap64 (x8 + 2)))) * 256))) (wrap64 (rd x1 (wrap64 (x8 + 3))))]) (wrap64 (x8 + 4))) else (none)) else (none)) else (none)) else (none)) else (none)) else (none)) else (none)) else (none)) else (none)) else (spec_ShaBlock.l2 k x0 x7 16)
def spec_ShaBlock.l2 : Nat → List Int → List Int → Int → Option (List Int)
 | 0, _, _, _ => none
 | k + 1, x0, x7, x9 => if x9 < 64 then (if 0 ≤ (wrap64 (x9 - 15)) then (if (wrap64 (x9 - 15)) < (x7.length : Int) then (if 0 ≤ (wrap64 (x9 - 2)) then (if (wrap64 (x9 - 2)) < (x7.length : Int) then ((spec_l04Turn.f (rd x7 (wrap64 (x9 - 15))) 7).bind fun t119 => ((spec_l04Turn.f (rd x7 (wrap64 (x9 - 15))) 18).bind fun t120 => ((spec_l04Turn.f (rd x7 (wrap64 (x9 - 2))) 17).bind fun t121 => ((spec_l04Turn.f (rd x7 (wrap64 (x9 - 2))) 19).bind fun t122 => (if 0 ≤ (wrap64 (x9 - 16)) then (if (wrap64 (x9 - 16)) < (x7.length : Int) then (if 0 ≤ (wrap64 (x9 - 7)) then (if (wrap64 (x9 - 7)) < (x7.length : Int) then (if x7.length < 17592186044416 then (spec_ShaBlock.l2 k x0 (x7 ++ [Go.bits .and .i64 (wrap64 ((wrap64 ((wrap64 ((rd x7 (wrap64 (x9 - 16))) + (Go.bits .xor .i64 (Go.bits .xor .i64 t119 t120) ((rd x7 (wrap64 (x9 - 15))) / 8)))) + (rd x7 (wrap64 (x9 - 7))))) + (Go.bits .xor .i64 (Go.bits .xor .i64 t121 t122) ((rd x7 (wrap64 (x9 - 2))) / 1024)))) 4294967295]) (wrap64 (x9 + 1))) else (none)) else (none)) else (none)) else (none)) else (none)))))) else (none)) else (none)) else (none)) else (none)) else ((spec_l04K.f).bind fun t128 => ((some (([] : List Int) : List Int)).bind fun y131 => (if y131.length + x0.length < 17592186044416 then (spec_ShaBlock.l3 k x0 x7 t128 (y131 ++ x0) 0) else (none))))
def spec_ShaBlock.l3 : Nat → List Int → List Int → List Int → List Int → Int → Option (List Int)
 | 0, _, _, _, _, _ => none
 | k + 1, x0, x7, x14, x15, x16 => if x16 < 64 then (if 4 < (x15.length : Int) then (if 0 < (x15.length : Int) then (if 7 < (x15.length : Int) then ((spec_l04Turn.f (rd x15 4) 6).bind fun t140 => ((spec_l04Turn.f (rd x15 4) 11).bind fun t141 => ((spec_l04Turn.f (rd x15 4) 25).bind fun t142 => (if 5 < (x15.length : Int) then (if 6 < (x15.length : Int) then (if 0 ≤ x16 then (if x16 < (x14.length : Int) then (if x16 < (x7.length : Int) then ((spec_l04Turn.f (rd x15 0) 2).bind fun t147 => ((spec_l04Turn.f (rd x15 0) 13).bind fun t148 => ((spec_l04Turn.f (rd x15 0) 22).bind fun t149 => (if 1 < (x15.length : Int) then (if 2 < (x15.length : Int) then (if 3 < (x15.length : Int) then (spec_ShaBlock.l3 k x0 x7 x14 (([Go.bits .and .i64 (wrap64 ((wrap64 ((wrap64 ((wrap64 ((wrap64 ((rd x15 7) + (Go.bits .xor .i64 (Go.bits .xor .i64 t140 t141) t142))) + (Go.bits .xor .i64 (Go.bits .and .i64 (rd x15 4) (rd x15 5)) (Go.bits .and .i64 (Go.bits .xor .i64 4294967295 (rd x15 4)) (rd x15 6))))) + (rd x14 x16))) + (rd x7 x16))) + (wrap64 ((Go.bits .xor .i64 (Go.bits .xor .i64 t147 t148) t149) + (Go.bits .xor .i64 (Go.bits .xor .i64 (Go.bits .and .i64 (rd x15 0) (rd x15 1)) (Go.bits .and .i64 (rd x15 0) (rd x15 2))) (Go.bits .and .i64 (rd x15 1) (rd x15 2))))))) 4294967295, rd x15 0, rd x15 1, rd x15 2, Go.bits .and .i64 (wrap64 ((rd x15 3) + (wrap64 ((wrap64 ((wrap64 ((wrap64 ((rd x15 7) + (Go.bits .xor .i64 (Go.bits .xor .i64 t140 t141) t142))) + (Go.bits .xor .i64 (Go.bits .and .i64 (rd x15 4) (rd x15 5)) (Go.bits .and .i64 (Go.bits .xor .i64 4294967295 (rd x15 4)) (rd x15 6))))) + (rd x14 x16))) + (rd x7 x16))))) 4294967295, rd x15 4, rd x15 5, rd x15 6] : List Int)) (wrap64 (x16 + 1))) else (none)) else (none)) else (none))))) else (none)) else (none)) else (none)) else (none)) else (none))))) else (none)) else (none)) else (none)) else (spec_ShaBlock.l4 k x0 x15 (([] : List Int)) (x0.length : Int) 0)
def spec_ShaBlock.l4 : Nat → List Int → List Int → List Int → Int → Int → Option (List Int)
 | 0, _, _, _, _, _ => none
 | k + 1, x0, x15, x21, x235, x236 => if x236 < x235 then (if 0 ≤ x236 then (if x236 < (x0.length : Int) then (if x236 < (x15.length : Int) then (if x21.length < 17592186044416 then (spec_ShaBlock.l4 k x0 x15 (x21 ++ [Go.bits .and .i64 (wrap64 ((rd x0 x236) + (rd x15 x236))) 4294967295]) x235 (wrap64 (x236 + 1))) else (none)) else (none)) else (none)) else (none)) else (some x21)
end
def spec_ShaBlock.f (k : Nat) (l0 : List Int) (l1 : List Int) : Option (List Int) := if (l0.length : Int) = 8 then (spec_ShaBlock.j0 k l0 l1 ((l1.length : Int) != 64)) else (spec_ShaBlock.j0 k l0 l1 true)
theorem spec_ShaBlock.mono_l : ∀ k, (∀ y0 y1 y2, LeO (spec_ShaBlock.j0 k y0 y1 y2) (spec_ShaBlock.j0 (k + 1) y0 y1 y2)) ∧ (∀ y0 y1 y2 y3 y4, LeO (spec_ShaBlock.l0 k y0 y1 y2 y3 y4) (spec_ShaBlock.l0 (k + 1) y0 y1 y2 y3 y4)) ∧ (∀ y0 y1 y2 y3, LeO (spec_ShaBlock.l1 k y0 y1 y2 y3) (spec_ShaBlock.l1 (k + 1) y0 y1 y2 y3)) ∧ (∀ y0 y1 y2, LeO (spec_ShaBlock.l2 k y0 y1 y2) (spec_ShaBlock.l2 (k + 1) y0 y1 y2)) ∧ (∀ y0 y1 y2 y3 y4, LeO (spec_ShaBlock.l3 k y0 y1 y2 y3 y4) (spec_ShaBlock.l3 (k + 1) y0 y1 y2 y3 y4)) ∧ (∀ y0 y1 y2 y3 y4, LeO (spec_ShaBlock.l4 k y0 y1 y2 y3 y4) (spec_ShaBlock.l4 (k + 1) y0 y1 y2 y3 y4))
 | 0 => ⟨fun _ _ _ r h => by simp [spec_ShaBlock.j0] at h, fun _ _ _ _ _ r h => by simp [spec_ShaBlock.l0] at h, fun _ _ _ _ r h => by simp [spec_ShaBlock.l1] at h, fun _ _ _ r h => by simp [spec_ShaBlock.l2] at h, fun _ _ _ _ _ r h => by simp [spec_ShaBlock.l3] at h, fun _ _ _ _ _ r h => by simp [spec_ShaBlock.l4] at h⟩
 | k + 1 => by
  obtain ⟨ih0, ih1, ih2, ih3, ih4, ih5⟩ := spec_ShaBlock.mono_l k
  refine ⟨?_, ?_, ?_, ?_, ?_, ?_⟩
  ·
   intro y0 y1 y2
   unfold spec_ShaBlock.j0
   repeat' first
   | (with_reducible exact ih0 _ _ _)
   | (with_reducible exact ih1 _ _ _ _ _)
   | (with_reducible exact ih2 _ _ _ _)
   | (with_reducible exact ih3 _ _ _)
   | (with_reducible exact ih4 _ _ _ _ _)
   | (with_reducible exact ih5 _ _ _ _ _)
   | (with_reducible exact LeO.refl _)
   | (with_reducible exact LeO.none _)
   | (with_reducible refine LeO.ite ?_ ?_)
   | (with_reducible refine LeO.bind ?_ (fun _ => ?_))
   | exact ih0 _ _ _
   | exact ih1 _ _ _ _ _
   | exact ih2 _ _ _ _
   | exact ih3 _ _ _
   | exact ih4 _ _ _ _ _
   | exact ih5 _ _ _ _ _
   | exact LeO.none _
   | refine LeO.ite ?_ ?_
   | refine LeO.bind ?_ (fun _ => ?_)
  ·
   intro y0 y1 y2 y3 y4
   unfold spec_ShaBlock.l0
   repeat' first
   | (with_reducible exact ih0 _ _ _)
   | (with_reducible exact ih1 _ _ _ _ _)
   | (with_reducible exact ih2 _ _ _ _)
   | (with_reducible exact ih3 _ _ _)
   | (with_reducible exact ih4 _ _ _ _ _)
   | (with_reducible exact ih5 _ _ _ _ _)
   | (with_reducible exact LeO.refl _)
   | (with_reducible exact LeO.none _)
   | (with_reducible refine LeO.ite ?_ ?_)
   | (with_reducible refine LeO.bind ?_ (fun _ => ?_))
   | exact ih0 _ _ _
   | exact ih1 _ _ _ _ _
   | exact ih2 _ _ _ _
   | exact ih3 _ _ _
   | exact ih4 _ _ _ _ _
   | exact ih5 _ _ _ _ _
   | exact LeO.none _
   | refine LeO.ite ?_ ?_
   | refine LeO.bind ?_ (fun _ => ?_)
  ·
   intro y0 y1 y2 y3
   unfold spec_ShaBlock.l1
   repeat' first
   | (with_reducible exact ih0 _ _ _)
   | (with_reducible exact ih1 _ _ _ _ _)
   | (with_reducible exact ih2 _ _ _ _)
   | (with_reducible exact ih3 _ _ _)
   | (with_reducible exact ih4 _ _ _ _ _)
   | (with_reducible exact ih5 _ _ _ _ _)
   | (with_reducible exact LeO.refl _)
   | (with_reducible exact LeO.none _)
   | (with_reducible refine LeO.ite ?_ ?_)
   | (with_reducible refine LeO.bind ?_ (fun _ => ?_))
   | exact ih0 _ _ _
   | exact ih1 _ _ _ _ _
   | exact ih2 _ _ _ _
   | exact ih3 _ _ _
   | exact ih4 _ _ _ _ _
   | exact ih5 _ _ _ _ _
   | exact LeO.none _
   | refine LeO.ite ?_ ?_
   | refine LeO.bind ?_ (fun _ => ?_)
  ·
   intro y0 y1 y2
   unfold spec_ShaBlock.l2
   repeat' first
   | (with_reducible exact ih0 _ _ _)
   | (with_reducible exact ih1 _ _ _ _ _)
   | (with_reducible exact ih2 _ _ _ _)
   | (with_reducible exact ih3 _ _ _)
   | (with_reducible exact ih4 _ _ _ _ _)
   | (with_reducible exact ih5 _ _ _ _ _)
   | (with_reducible exact LeO.refl _)
   | (with_reducible exact LeO.none _)
   | (with_reducible refine LeO.ite ?_ ?_)
   | (with_reducible refine LeO.bind ?_ (fun _ => ?_))
   | exact ih0 _ _ _
   | exact ih1 _ _ _ _ _
   | exact ih2 _ _ _ _
   | exact ih3 _ _ _
   | exact ih4 _ _ _ _ _
   | exact ih5 _ _ _ _ _
   | exact LeO.none _
   | refine LeO.ite ?_ ?_
   | refine LeO.bind ?_ (fun _ => ?_)
  ·
   intro y0 y1 y2 y3 y4
   unfold spec_ShaBlock.l3
   repeat' first
   | (with_reducible exact ih0 _ _ _)
   | (with_reducible exact ih1 _ _ _ _ _)
   | (with_reducible exact ih2 _ _ _ _)
   | (with_reducible exact ih3 _ _ _)
   | (with_reducible exact ih4 _ _ _ _ _)
   | (with_reducible exact ih5 _ _ _ _ _)
   | (with_reducible exact LeO.refl _)
   | (with_reducible exact LeO.none _)
   | (with_reducible refine LeO.ite ?_ ?_)
   | (with_reducible refine LeO.bind ?_ (fun _ => ?_))
   | exact ih0 _ _ _
   | exact ih1 _ _ _ _ _
   | exact ih2 _ _ _ _
   | exact ih3 _ _ _
   | exact ih4 _ _ _ _ _
   | exact ih5 _ _ _ _ _
   | exact LeO.none _
   | refine LeO.ite ?_ ?_
   | refine LeO.bind ?_ (fun _ => ?_)
  ·
   intro y0 y1 y2 y3 y4
   unfold spec_ShaBlock.l4
   repeat' first
   | (with_reducible exact ih0 _ _ _)
   | (with_reducible exact ih1 _ _ _ _ _)
   | (with_reducible exact ih2 _ _ _ _)
   | (with_reducible exact ih3 _ _ _)
   | (with_reducible exact ih4 _ _ _ _ _)
   | (with_reducible exact ih5 _ _ _ _ _)
   | (with_reducible exact LeO.refl _)
   | (with_reducible exact LeO.none _)
   | (with_reducible refine LeO.ite ?_ ?_)
   | (with_reducible refine LeO.bind ?_ (fun _ => ?_))
   | exact ih0 _ _ _
   | exact ih1 _ _ _ _ _
   | exact ih2 _ _ _ _
   | exact ih3 _ _ _
   | exact ih4 _ _ _ _ _
   | exact ih5 _ _ _ _ _
   | exact LeO.none _
   | refine LeO.ite ?_ ?_
   | refine LeO.bind ?_ (fun _ => ?_)
theorem spec_ShaBlock.mono : ∀ a0 a1 k, LeO (spec_ShaBlock.f k a0 a1) (spec_ShaBlock.f (k + 1) a0 a1) := by
 intro a0 a1 k
 obtain ⟨ih0, ih1, ih2, ih3, ih4, ih5⟩ := spec_ShaBlock.mono_l k
 unfold spec_ShaBlock.f
 repeat' first
   | (with_reducible exact ih0 _ _ _)
   | (with_reducible exact ih1 _ _ _ _ _)
   | (with_reducible exact ih2 _ _ _ _)
   | (with_reducible exact ih3 _ _ _)
   | (with_reducible exact ih4 _ _ _ _ _)
   | (with_reducible exact ih5 _ _ _ _ _)
   | (with_reducible exact LeO.refl _)
   | (with_reducible exact LeO.none _)
   | (with_reducible refine LeO.ite ?_ ?_)
   | (with_reducible refine LeO.bind ?_ (fun _ => ?_))
   | exact ih0 _ _ _
   | exact ih1 _ _ _ _ _
   | exact ih2 _ _ _ _
   | exact ih3 _ _ _
   | exact ih4 _ _ _ _ _
   | exact ih5 _ _ _ _ _
   | exact LeO.none _
   | refine LeO.ite ?_ ?_
   | refine LeO.bind ?_ (fun _ => ?_)

end Go.Proofs.Ytjfhbmbiegccnaa.ShaBase
