/- The reference block function comes to the plain block function. No conditions but those typed. -/
import Derived.Test.YtjfhbmbiegccnaaShaG
import Derived.Test.YtjfhbmbiegccnaaShaD
import Derived.Test.YtjfhbmbiegccnaaLib
namespace Go.Proofs.Ytjfhbmbiegccnaa.ShaBase
open Go.RowKit Go.Proofs.YtjfhbmbiegccnaaW.PrintWords Go.Proofs.YtjfhbmbiegccnaaW.PrintLast Go.Proofs.YtjfhbmbiegccnaaW.PrintMore Go.Proofs.Ytjfhbmbiegccnaa.Lib
set_option linter.unusedVariables false
set_option linter.unusedSimpArgs false
theorem nat_xor (a b : Nat) (ha : a < 2 ^ 32) (hb : b < 2 ^ 32) : Go.bits .xor .i64 (a : Int) (b : Int) = ((a ^^^ b : Nat) : Int) := by
 have h1 : a % 2 ^ 64 = a := Nat.mod_eq_of_lt (by omega)
 have h2 : b % 2 ^ 64 = b := Nat.mod_eq_of_lt (by omega)
 have h3 : a ^^^ b < 2 ^ 32 := Nat.xor_lt_two_pow ha hb
 have e : Go.bits .xor .i64 (a : Int) (b : Int) = IntKind.i64.wrap ((BitVec.ofInt 64 (a : Int) ^^^ BitVec.ofInt 64 (b : Int)).toNat : Int) := rfl
 rw [e, BitVec.toNat_xor, BitVec.ofInt_natCast, BitVec.ofInt_natCast, BitVec.toNat_ofNat, BitVec.toNat_ofNat, h1, h2]
 exact wraps_i64 _ (by omega) (by omega)
theorem wd_nat {x : Int} (h : Wd x) : ∃ a : Nat, a < 2 ^ 32 ∧ x = (a : Int) := by
 obtain ⟨h0, h1⟩ := h
 obtain ⟨a, rfl⟩ := Int.eq_ofNat_of_zero_le h0
 exact ⟨a, by omega, rfl⟩
theorem ch_nat (e f g : Nat) (he : e < 2 ^ 32) (hg : g < 2 ^ 32) : (e &&& f) ^^^ ((4294967295 ^^^ e) &&& g) = (e &&& f) ||| ((e ^^^ 4294967295) &&& g) := by
 apply Nat.eq_of_testBit_eq
 intro i
 have hm : (4294967295 : Nat) = 2 ^ 32 - 1 := by decide
 simp only [Nat.testBit_xor, Nat.testBit_and, Nat.testBit_or, hm, Nat.testBit_two_pow_sub_one]
 by_cases hi : i < 32
 ·
  simp only [hi, decide_true]
  cases e.testBit i <;> cases f.testBit i <;> cases g.testBit i <;> rfl
 ·
  rw [Nat.testBit_lt_two_pow (Nat.lt_of_lt_of_le he (Nat.pow_le_pow_right (by decide) (by omega))), Nat.testBit_lt_two_pow (Nat.lt_of_lt_of_le hg (Nat.pow_le_pow_right (by decide) (by omega)))]
  simp [hi]
theorem maj_nat (a b c : Nat) : ((a &&& b) ^^^ (a &&& c)) ^^^ (b &&& c) = ((a &&& b) ||| (a &&& c)) ||| (b &&& c) := by
 apply Nat.eq_of_testBit_eq
 intro i
 simp only [Nat.testBit_xor, Nat.testBit_and, Nat.testBit_or]
 cases a.testBit i <;> cases b.testBit i <;> cases c.testBit i <;> rfl
theorem and_lt (a b : Nat) (hb : b < 2 ^ 32) : a &&& b < 2 ^ 32 := Nat.and_lt_two_pow _ hb
theorem ch_eq {e f g : Int} (he : Wd e) (hf : Wd f) (hg : Wd g) : Go.bits .xor .i64 (Go.bits .and .i64 e f) (Go.bits .and .i64 (Go.bits .xor .i64 4294967295 e) g) = chI e f g := by
 obtain ⟨e, he', rfl⟩ := wd_nat he
 obtain ⟨f, hf', rfl⟩ := wd_nat hf
 obtain ⟨g, hg', rfl⟩ := wd_nat hg
 clear he hf hg
 have he := he'
 have hf := hf'
 have hg := hg'
 have hM : (4294967295 : Nat) < 2 ^ 32 := by decide
 have hx := Nat.xor_lt_two_pow he hM
 have hy := Nat.xor_lt_two_pow hM he
 unfold chI
 rw [show (4294967295 : Int) = ((4294967295 : Nat) : Int) from rfl, nat_xor _ _ he hM, nat_xor _ _ hM he, (nat_bits _ _ he hf).1, (nat_bits _ _ hx hg).1, (nat_bits _ _ hy hg).1, nat_xor _ _ (and_lt _ _ hf) (and_lt _ _ hg), (nat_bits _ _ (and_lt _ _ hf) (and_lt _ _ hg)).2, ch_nat e f g he hg]
theorem maj_eq {a b c : Int} (ha : Wd a) (hb : Wd b) (hc : Wd c) : Go.bits .xor .i64 (Go.bits .xor .i64 (Go.bits .and .i64 a b) (Go.bits .and .i64 a c)) (Go.bits .and .i64 b c) = majI a b c := by
 obtain ⟨a, ha', rfl⟩ := wd_nat ha
 obtain ⟨b, hb', rfl⟩ := wd_nat hb
 obtain ⟨c, hc', rfl⟩ := wd_nat hc
 clear ha hb hc
 have ha := ha'
 have hb := hb'
 have hc := hc'
 have h1 := and_lt a b hb
 have h2 := and_lt a c hc
 have h3 := and_lt b c hc
 unfold majI
 rw [(nat_bits _ _ ha hb).1, (nat_bits _ _ ha hc).1, (nat_bits _ _ hb hc).1, nat_xor _ _ h1 h2, (nat_bits _ _ h1 h2).2, nat_xor _ _ (Nat.xor_lt_two_pow h1 h2) h3, (nat_bits _ _ (Nat.or_lt_two_pow h1 h2) h3).2, maj_nat]
theorem turn_some (x n : Int) (h0 : 0 ≤ n) (h1 : n ≤ 31) : spec_l04Turn.f x n = some (sh_rot x n) := by
 have e : wrap64 (32 - n) = 32 - n := by unfold wrap64; omega
 simp only [spec_l04Turn.f, if_pos h0, sh_rot, e]
 rw [if_pos (by omega)]
theorem word_some (x : Int) : spec_l04Word.f x = some (decide (Wd x)) := by
 unfold spec_l04Word.f spec_l01In.f Wd
 by_cases h : 0 ≤ x
 ·
  rw [if_pos h]
  simp [h]
 ·
  rw [if_neg h]
  simp [h]
theorem sched16 (l : List Int) : sched l 0 = (List.range 16).map (word l) := rfl
theorem rK_length : rK.length = 64 := by decide
theorem specK : spec_l04K.f = some rK := by rfl
theorem l4_ev (h v : List Int) (hh : h.length = 8) (hv : v.length = 8) : ∀ d n : Nat, n + d = 8 → Ev (fun k => spec_ShaBlock.l4 k h v (sumI h v n) 8 (n : Int)) (sumI h v 8) := by
 intro d
 induction d with
 | zero =>
  intro n hn
  obtain rfl : n = 8 := by omega
  exact Ev.step (fun _ => rfl) (ev_neg (by decide) (ev_some rfl))
 | succ d ih =>
  intro n hn
  have hs := sumI_length h v n
  have := ih (n + 1) (by omega)
  rw [sumI_succ] at this
  refine Ev.step (fun _ => rfl) (ev_pos (by omega) (ev_pos (by omega) (ev_pos (by omega) (ev_pos (by omega) (ev_pos (by omega) ?_)))))
  rw [wrap_succ (by omega)]
  exact this
theorem l3_ev (h l : List Int) (hh : h.length = 8) (hw : ∀ x ∈ h, Wd x) : ∀ d n : Nat, n + d = 64 → Ev (fun k => spec_ShaBlock.l3 k h (sched l 48) rK (runI h l n) (n : Int)) (shaBlock h l) := by
 intro d
 induction d with
 | zero =>
  intro n hn
  obtain rfl : n = 64 := by omega
  refine Ev.step (fun _ => rfl) (ev_neg (by decide) ?_)
  rw [hh]
  exact l4_ev h (runI h l 64) hh (runI_length h l hh 64) 8 0 rfl
 | succ d ih =>
  intro n hn
  have hv := runI_length h l hh n
  have hs := sched_length l 48
  have hk := rK_length
  have W := fun i => rd_mem (runI h l n) (P := Wd) (runI_wd h l hw n) ⟨by decide, by decide⟩ i
  have := ih (n + 1) (by omega)
  have e : runI h l (n + 1) = stepI (runI h l n) (rd rK (n : Int)) (rd (sched l 48) (n : Int)) := rfl
  rw [e] at this
  generalize runI h l n = v at hv W this ⊢
  clear ih
  refine Ev.step (fun _ => rfl) (ev_pos (by omega) (ev_pos (by omega) (ev_pos (by omega) (ev_pos (by omega) ?_))))
  refine ev_bind0 (turn_some _ _ (by decide) (by decide)) (ev_bind0 (turn_some _ _ (by decide) (by decide)) (ev_bind0 (turn_some _ _ (by decide) (by decide)) ?_))
  refine ev_pos (by omega) (ev_pos (by omega) (ev_pos (by omega) (ev_pos (by omega) (ev_pos (by omega) ?_))))
  refine ev_bind0 (turn_some _ _ (by decide) (by decide)) (ev_bind0 (turn_some _ _ (by decide) (by decide)) (ev_bind0 (turn_some _ _ (by decide) (by decide)) ?_))
  refine ev_pos (by omega) (ev_pos (by omega) (ev_pos (by omega) ?_))
  rw [wrap_succ (by omega), ch_eq (W 4) (W 5) (W 6), maj_eq (W 0) (W 1) (W 2)]
  exact this
theorem l2_ev (h l : List Int) (hh : h.length = 8) (hw : ∀ x ∈ h, Wd x) : ∀ d n : Nat, n + d = 48 → Ev (fun k => spec_ShaBlock.l2 k h (sched l n) ((16 + n : Nat) : Int)) (shaBlock h l) := by
 intro d
 induction d with
 | zero =>
  intro n hn
  obtain rfl : n = 48 := by omega
  refine Ev.step (fun _ => rfl) (ev_neg (by decide) (ev_bind0 specK (ev_bind0 rfl ?_)))
  refine ev_pos (by rw [hh]; decide) ?_
  exact l3_ev h l hh hw 64 0 rfl
 | succ d ih =>
  intro n hn
  have hs := sched_length l n
  have := ih (n + 1) (by omega)
  have e : sched l (n + 1) = sched l n ++ [nextW (sched l n)] := rfl
  rw [e] at this
  unfold nextW at this
  generalize sched l n = ws at hs this ⊢
  clear ih
  have m15 : wrap64 (((16 + n : Nat) : Int) - 15) = ((ws.length - 15 : Nat) : Int) := by unfold wrap64; omega
  have m2 : wrap64 (((16 + n : Nat) : Int) - 2) = ((ws.length - 2 : Nat) : Int) := by unfold wrap64; omega
  have m16 : wrap64 (((16 + n : Nat) : Int) - 16) = ((ws.length - 16 : Nat) : Int) := by unfold wrap64; omega
  have m7 : wrap64 (((16 + n : Nat) : Int) - 7) = ((ws.length - 7 : Nat) : Int) := by unfold wrap64; omega
  refine Ev.step (fun _ => rfl) ?_
  simp only [spec_ShaBlock.l2, m15, m2, m16, m7]
  refine ev_pos (by omega) (ev_pos (by omega) (ev_pos (by omega) (ev_pos (by omega) (ev_pos (by omega) ?_))))
  refine ev_bind0 (turn_some _ _ (by decide) (by decide)) (ev_bind0 (turn_some _ _ (by decide) (by decide)) (ev_bind0 (turn_some _ _ (by decide) (by decide)) (ev_bind0 (turn_some _ _ (by decide) (by decide)) ?_)))
  refine ev_pos (by omega) (ev_pos (by omega) (ev_pos (by omega) (ev_pos (by omega) (ev_pos (by omega) ?_))))
  rw [wrap_succ (by omega)]
  exact this
theorem l1_ev (h l : List Int) (hh : h.length = 8) (hl : l.length = 64) (hw : ∀ x ∈ h, Wd x) : ∀ d i : Nat, i + d = 16 → Ev (fun k => spec_ShaBlock.l1 k h l ((List.range i).map (word l)) ((4 * i : Nat) : Int)) (shaBlock h l) := by
 intro d
 induction d with
 | zero =>
  intro i hi
  obtain rfl : i = 16 := by omega
  refine Ev.step (fun _ => rfl) (ev_neg (by decide) ?_)
  rw [← sched16]
  exact l2_ev h l hh hw 48 0 rfl
 | succ d ih =>
  intro i hi
  have := ih (i + 1) (by omega)
  rw [List.range_succ, List.map_append, List.map_singleton] at this
  unfold word at this
  have hn : ((List.range i).map (word l)).length = i := by simp
  have a1 : wrap64 (((4 * i : Nat) : Int) + 1) = ((4 * i + 1 : Nat) : Int) := by unfold wrap64; omega
  have a2 : wrap64 (((4 * i : Nat) : Int) + 2) = ((4 * i + 2 : Nat) : Int) := by unfold wrap64; omega
  have a3 : wrap64 (((4 * i : Nat) : Int) + 3) = ((4 * i + 3 : Nat) : Int) := by unfold wrap64; omega
  have a4 : wrap64 (((4 * i : Nat) : Int) + 4) = ((4 * (i + 1) : Nat) : Int) := by unfold wrap64; omega
  refine Ev.step (fun _ => rfl) ?_
  simp only [spec_ShaBlock.l1, a1, a2, a3, a4]
  refine ev_pos (by omega) (ev_pos (by omega) (ev_pos (by omega) (ev_pos (by omega) (ev_pos (by omega) (ev_pos (by omega) (ev_pos (by omega) (ev_pos (by omega) (ev_pos (by omega) (ev_pos (by omega) ?_)))))))))
  exact this
theorem l0_ev (h l : List Int) (hh : h.length = 8) (hl : l.length = 64) : ∀ d i : Nat, i + d = 8 → (∀ j : Nat, j < i → Wd (rd h (j : Int))) → Ev (fun k => spec_ShaBlock.l0 k h l h 8 (i : Int)) (blockOf h l) := by
 intro d
 induction d with
 | zero =>
  intro i hi hp
  obtain rfl : i = 8 := by omega
  have hw : ∀ x ∈ h, Wd x := fun x hx => by
   obtain ⟨j, hj, rfl⟩ := List.getElem_of_mem hx
   have := hp j (by omega)
   rw [rd_at hj] at this
   exact this
  refine Ev.step (fun _ => rfl) (ev_neg (by decide) ?_)
  unfold blockOf
  rw [if_pos ⟨hh, hl, hw⟩]
  exact l1_ev h l hh hl hw 16 0 rfl
 | succ d ih =>
  intro i hi hp
  refine Ev.step (fun _ => rfl) (ev_pos (by omega) (ev_pos (by omega) (ev_pos (by omega) (ev_bind0 (word_some _) ?_))))
  by_cases hw : Wd (rd h (i : Int))
  ·
   rw [wrap_succ (by omega)]
   exact ev_pos (decide_eq_true hw) (ih (i + 1) (by omega) (fun j hj => by
    by_cases e : j = i
    ·
     rw [e]; exact hw
    ·
     exact hp j (by omega)))
  ·
   refine ev_neg (by simpa using hw) (ev_some ?_)
   unfold blockOf
   rw [if_neg]
   rintro ⟨_, _, q⟩
   rw [rd_at (show i < h.length by omega)] at hw
   exact hw (q _ (List.getElem_mem _))
theorem spec_ev (h l : List Int) : Ev (fun k => spec_ShaBlock.f k h l) (blockOf h l) := by
 unfold spec_ShaBlock.f
 by_cases hh : h.length = 8
 ·
  refine ev_pos (by omega) ?_
  by_cases hl : l.length = 64
  ·
   refine Ev.step (fun _ => rfl) (ev_neg (by simp [hl]) ?_)
   rw [hh]
   exact l0_ev h l hh hl 8 0 rfl (fun j hj => by omega)
  ·
   refine Ev.step (fun _ => rfl) (ev_pos (by simp; omega) (ev_some ?_))
   unfold blockOf
   rw [if_neg (fun q => hl q.2.1)]
 ·
  refine ev_neg (by omega) (Ev.step (f := fun _ => some []) (fun _ => by simp only [spec_ShaBlock.j0, if_true]) (ev_some ?_))
  unfold blockOf
  rw [if_neg (fun q => hh q.1)]
end Go.Proofs.Ytjfhbmbiegccnaa.ShaBase
