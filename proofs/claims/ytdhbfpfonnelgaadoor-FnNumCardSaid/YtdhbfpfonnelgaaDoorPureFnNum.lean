/- The numbers' round trip of a drawn number: the printed law comes to true. Conditions: those of the printed statement alone. -/
import Derived.Test.YtdhbfpfonnelgaaDoorQFnNumx6
import Derived.Test.YtdhbfpfonnelgaaDoorLib
import Derived.Test.YtdhbfpfonnelgaaDoorLibNum
import Derived.Test.YtdhbfpfonnelgaaDoorLibDraw
set_option linter.unusedVariables false
set_option linter.unusedSimpArgs false
set_option maxRecDepth 4000
namespace Go.Proofs.YtdhbfpfonnelgaaDoor.Pure
open Go.RowKit Go.Proofs.YtdhbfpfonnelgaaDoor.QFnNum Go.Proofs.YtdhbfpfonnelgaaDoorW.PrintWords Go.Proofs.YtdhbfpfonnelgaaDoorW.PrintLast Go.Proofs.YtdhbfpfonnelgaaDoorW.PrintMore Go.Proofs.YtdhbfpfonnelgaaDoor.Lib

/-! ### spec_MakeBytes -/
theorem l01New_ev (l : List Int) (hl : l.length ≤ 1048576) : ∀ (d i : Nat) (h : Int), l.length - i = d → i ≤ l.length → ∃ h', Ev (fun k => spec_l01New.l0 k l h (i : Int)) (l, 0, h') := by
  intro d
  induction d with
  | zero =>
    intro i h hd hi
    exact ⟨h, Ev.step (fun _ => rfl) (ev_neg (by omega) (Ev.now _))⟩
  | succ d ih =>
    intro i h hd hi
    by_cases h4 : (i : Int) < 4000
    · obtain ⟨h', e⟩ := ih (i + 1) (Go.bits .and .i64 (wrap64 ((wrap64 ((wrap64 (h * 37)) + (wrap64 (rd l i)))) + 7)) 1073741823) (by omega) (by omega)
      refine ⟨h', Ev.step (fun _ => rfl) (ev_pos (by omega) (ev_pos h4 (ev_pos (by omega) ?_)))⟩
      rw [wrap_succ (by omega)]
      exact e
    · exact ⟨h, Ev.step (fun _ => rfl) (ev_pos (by omega) (ev_neg h4 (Ev.now _)))⟩
theorem l01New_some (l : List Int) (hl : l.length ≤ 1048576) : ∃ h, Ev (fun k => spec_l01New.f k l) (l, 0, h) := l01New_ev l hl _ 0 _ rfl (by omega)
/-- A cursor's byte: a byte; the cursor stays in its place or goes on. -/
theorem l01Byte_some (l : List Int) (i h : Int) (hi : 0 ≤ i) (hl : l.length ≤ 1048576) (h1 : i ≤ l.length) : ∃ b i' h', spec_l01Byte.f l i h = some (b, i', h') ∧ 0 ≤ b ∧ b ≤ 255 ∧ 0 ≤ i' ∧ i' ≤ l.length := by
  unfold spec_l01Byte.f
  by_cases h0 : i < (l.length : Int)
  · rw [if_pos h0, if_pos hi, wrap_in (n := i + 1) (by omega) (by omega)]
    exact ⟨_, _, _, rfl, (and255 _).1, (and255 _).2, by omega, by omega⟩
  · rw [if_neg h0]
    exact ⟨_, _, _, rfl, (and255 _).1, (and255 _).2, hi, h1⟩
theorem l01Below_some (l : List Int) (i h n : Int) (hi : 0 ≤ i) (hl : l.length ≤ 1048576) (h1 : i ≤ l.length) : ∃ b i' h', spec_l01Below.f l i h n = some (b, i', h') ∧ 0 ≤ b ∧ (0 < n → b < n) ∧ 0 ≤ i' ∧ i' ≤ l.length := by
  unfold spec_l01Below.f
  by_cases h0 : n ≤ 0
  · rw [if_pos h0]
    exact ⟨_, _, _, rfl, by omega, by omega, hi, h1⟩
  rw [if_neg h0]
  obtain ⟨b, i1, g1, e1, b0, b1, c0, c1⟩ := l01Byte_some l i h hi hl h1
  by_cases h2 : n ≤ 256
  · rw [if_pos h2, e1]
    simp only [Option.bind_some]
    rw [if_neg (by omega), Int.tmod_eq_emod_of_nonneg b0]
    exact ⟨_, _, _, rfl, Int.emod_nonneg _ (by omega), fun _ => Int.emod_lt_of_pos _ (by omega), c0, c1⟩
  · rw [if_neg h2]
    obtain ⟨x, i2, g2, e2, x0, x1, d0, d1⟩ := l01Byte_some l i1 g1 c0 hl c1
    obtain ⟨y, i3, g3, e3, y0, y1, f0, f1⟩ := l01Byte_some l i2 g2 d0 hl d1
    obtain ⟨z, i4, g4, e4, z0, z1, m0, m1⟩ := l01Byte_some l i3 g3 f0 hl f1
    rw [e1]
    simp only [Option.bind_some]
    rw [e2]
    simp only [Option.bind_some]
    rw [e3]
    simp only [Option.bind_some]
    rw [e4]
    simp only [Option.bind_some]
    rw [if_neg (by omega), wrap_in (n := b * 16777216) (by omega) (by omega), wrap_in (n := x * 65536) (by omega) (by omega), wrap_in (n := y * 256) (by omega) (by omega), wrap_in (n := b * 16777216 + x * 65536) (by omega) (by omega), wrap_in (n := b * 16777216 + x * 65536 + y * 256) (by omega) (by omega), wrap_in (by omega) (by omega), Int.tmod_eq_emod_of_nonneg (by omega)]
    exact ⟨_, _, _, rfl, Int.emod_nonneg _ (by omega), fun _ => Int.emod_lt_of_pos _ (by omega), m0, m1⟩

/-! ### spec_MakeNum -/
theorem makeNum_some (l : List Int) (n : Int) (hl : l.length ≤ 1048576) : ∃ r, Ev (fun k => spec_MakeNum.f k l n) r ∧ 0 ≤ r ∧ (0 < n → r < n) := by
  obtain ⟨h, e⟩ := l01New_some l hl
  obtain ⟨r, i', h', e2, r0, r1, _, _⟩ := l01Below_some l 0 (wrap64 (h + 777)) n (by omega) hl (by omega)
  exact ⟨r, Ev.bind e (ev_bind0 e2 (Ev.now _)), r0, r1⟩

/-! ### spec_MakeBytes2 -/
theorem l01Bytes_l0 (l : List Int) (hl : l.length ≤ 1048576) : ∀ (n : Nat) (acc : List Int) (i h : Int), n ≤ 1048576 → Bytes acc → acc.length + n ≤ 4194304 → 0 ≤ i → i ≤ l.length → ∃ r i' h', Ev (fun k => spec_l01Bytes.l0 k acc (n : Int) l i h) (r, i', h') ∧ Bytes r ∧ r.length = acc.length + n ∧ 0 ≤ i' ∧ i' ≤ l.length := by
  intro n
  induction n with
  | zero =>
    intro acc i h hn hb ha hi h1
    exact ⟨acc, i, h, Ev.step (fun _ => rfl) (ev_neg (by omega) (Ev.now _)), hb, rfl, hi, h1⟩
  | succ n ih =>
    intro acc i h hn hb ha hi h1
    obtain ⟨b, i1, g1, e1, b0, b1, c0, c1⟩ := l01Byte_some l i h hi hl h1
    obtain ⟨r, i', h', e, hr, hlen, d0, d1⟩ := ih (acc ++ [b % 256]) i1 g1 (by omega) (hb.app (Bytes.one (by omega) (by omega))) (by simp; omega) c0 c1
    refine ⟨r, i', h', Ev.step (fun _ => rfl) (ev_pos (by omega) (ev_bind0 e1 (ev_pos (by omega) ?_))), hr, ?_, d0, d1⟩
    · rw [wrap_in (by omega) (by omega), show ((n + 1 : Nat) : Int) - 1 = (n : Int) by omega]
      exact e
    · rw [hlen]
      simp
      omega
theorem l01Bytes_some (l : List Int) (i h n : Int) (hl : l.length ≤ 1048576) (h0 : 0 ≤ n) (hn : n ≤ 1000) (hi : 0 ≤ i) (h1 : i ≤ l.length) : ∃ r i' h', Ev (fun k => spec_l01Bytes.f k l i h n) (r, i', h') ∧ Bytes r ∧ r.length ≤ n ∧ 0 ≤ i' ∧ i' ≤ l.length := by
  obtain ⟨b, i1, g1, e1, b0, b1, c0, c1⟩ := l01Below_some l i h (n + 1) hi hl h1
  obtain ⟨m, rfl⟩ := Int.eq_ofNat_of_zero_le b0
  have bm := b1 (by omega)
  obtain ⟨r, i', h', e, hr, hlen, d0, d1⟩ := l01Bytes_l0 l hl m [] i1 g1 (by omega) Bytes.nil (by simp; omega) c0 c1
  refine ⟨r, i', h', ?_, hr, by rw [hlen]; simp; omega, d0, d1⟩
  unfold spec_l01Bytes.f
  rw [wrap_in (by omega) (by omega)]
  exact ev_bind0 e1 e

/-! ### spec_MakeBytes3 -/
theorem makeBytes_some (l : List Int) (n : Int) (hl : l.length ≤ 1048576) (h0 : 0 ≤ n) (hn : n ≤ 1000) : ∃ r, Ev (fun k => spec_MakeBytes.f k l n) r ∧ Bytes r ∧ r.length ≤ n := by
  obtain ⟨h, e⟩ := l01New_some l hl
  obtain ⟨r, i', h', e2, hr, hlen, _, _⟩ := l01Bytes_some l 0 (wrap64 (h + n)) n hl h0 hn (by omega) (by omega)
  exact ⟨r, Ev.bind e (Ev.bind e2 (Ev.now _)), hr, hlen⟩

/-! ### impl_HexText -/
def hexDigitI (n : Int) : Int := if n < 10 then 48 + n else 87 + n
def hexOfI (l : List Int) : List Int := l.flatMap fun x => [hexDigitI (x / 16), hexDigitI (x % 16)]
theorem hexOfI_length (l : List Int) : (hexOfI l).length = 2 * l.length := by
  induction l with
  | nil => rfl
  | cons x l ih => simp [hexOfI] at ih ⊢; omega
theorem hexOfI_snoc (l : List Int) (i : Nat) (h : i < l.length) : hexOfI (l.take (i + 1)) = hexOfI (l.take i) ++ [hexDigitI (l[i] / 16), hexDigitI (l[i] % 16)] := by
  rw [List.take_succ_eq_append_getElem h]
  unfold hexOfI
  rw [List.flatMap_append]
  rfl
theorem hexTab (n : Int) (h0 : 0 ≤ n) (h1 : n < 16) : bt (⟨#[48, 49, 50, 51, 52, 53, 54, 55, 56, 57, 97, 98, 99, 100, 101, 102]⟩ : ByteArray) n = hexDigitI n := by
  have hc : n = 0 ∨ n = 1 ∨ n = 2 ∨ n = 3 ∨ n = 4 ∨ n = 5 ∨ n = 6 ∨ n = 7 ∨ n = 8 ∨ n = 9 ∨ n = 10 ∨ n = 11 ∨ n = 12 ∨ n = 13 ∨ n = 14 ∨ n = 15 := by omega
  rcases hc with rfl | rfl | rfl | rfl | rfl | rfl | rfl | rfl | rfl | rfl | rfl | rfl | rfl | rfl | rfl | rfl <;> rfl
theorem impl_hexText_l0 (l : List Int) (hb : Bytes l) (hl : l.length ≤ 1048576) : ∀ (d i : Nat), l.length - i = d → i ≤ l.length → Ev (fun k => impl_HexText.l0 k (hexOfI (l.take i)) l (l.length : Int) (i : Int)) (strOfNums (hexOfI l)) := by
  intro d
  induction d with
  | zero =>
    intro i hd hi
    refine Ev.step (fun _ => rfl) (ev_neg (by omega) (ev_some ?_))
    rw [List.take_of_length_le (by omega)]
  | succ d ih =>
    intro i hd hi
    have hi' : i < l.length := by omega
    have hv := hb l[i] (List.getElem_mem hi')
    have hlen := hexOfI_length (l.take i)
    rw [List.length_take] at hlen
    refine Ev.step (fun _ => rfl) (ev_pos (by omega) (ev_pos (by omega) (ev_pos (by omega) ?_)))
    rw [rd_at hi', u8_and15 _ (by omega) (by omega)]
    refine ev_pos (by omega) (ev_pos (by omega) (ev_pos (by omega) (ev_pos (by omega) ?_)))
    rw [hexTab (l[i] / 16) (by omega) (by omega), hexTab (l[i] % 16) (by omega) (by omega)]
    refine ev_bind0 rfl (ev_pos (by simp; omega) ?_)
    rw [wrap_succ (by omega), ← hexOfI_snoc l i hi']
    exact ih (i + 1) (by omega) (by omega)
theorem impl_hexText (l : List Int) (hb : Bytes l) (hl : l.length ≤ 1048576) : Ev (fun k => impl_HexText.f k l) (strOfNums (hexOfI l)) := by
  have := impl_hexText_l0 l hb hl _ 0 rfl (by omega)
  simpa [impl_HexText.f, hexOfI] using this

attribute [local congr] bind_lazy ite_lazy
def putVar (l : List Int) (n : Int) : List Int × Bool := if 0 ≤ n ∧ n ≤ 1152921504606846975 then (l ++ varBytes n.toNat, true) else ([], false)
theorem impl_putVar_l0 : ∀ (d : Nat) (n : Nat) (l : List Int), n ≤ d → n ≤ 1152921504606846975 → l.length + n.log2 < 140737488355000 → Ev (fun k => impl_PutVar.l0 k (n : Int) l) (l ++ varBytes n, true) := by
  intro d
  induction d using Nat.strongRecOn with
  | ind d ih =>
    intro n l hd hn hl
    by_cases h : n < 128
    · refine Ev.step (fun _ => rfl) (ev_neg (by omega) (ev_pos (by omega) (ev_some ?_)))
      rw [varBytes_small h, show (n : Int) % 256 = n by omega]
    · have hlog : (n / 128).log2 + 7 = n.log2 := log2_128 (by omega)
      refine Ev.step (fun _ => rfl) (ev_pos (by omega) (ev_pos (by omega) ?_))
      rw [varBytes_big (by omega), Int.tdiv_eq_ediv_of_nonneg (by omega), Int.tmod_eq_emod_of_nonneg (by omega), wrap_in (n := (n : Int) / 128) (by omega) (by omega), wrap_in (by omega) (by omega)]
      have := ih (n / 128) (by omega) (n / 128) (l ++ [(n : Int) % 128 + 128]) (Nat.le_refl _) (by omega) (by simp; omega)
      rw [show ((n : Int) % 128 + 128) % 256 = (n : Int) % 128 + 128 by omega]
      simpa using this
theorem impl_putVar (l : List Int) (n : Int) (hl : l.length ≤ 4194304) : Ev (fun k => impl_PutVar.f k l n) (putVar l n) := by
  unfold impl_PutVar.f putVar impl_isNum.f impl_within.f impl_copyBytes.f
  by_cases h0 : 0 ≤ n
  · by_cases h1 : n ≤ 1152921504606846975
    · obtain ⟨m, rfl⟩ := Int.eq_ofNat_of_zero_le h0
      have hlog : m.log2 < 64 := by
        by_cases hm : m = 0
        · subst hm; decide
        · exact (Nat.log2_lt hm).2 (by omega)
      have := impl_putVar_l0 m m l (Nat.le_refl _) (by omega) (by omega)
      have hc : ((([] : List Int)).length + l.length < 140737488355328) := by simp; omega
      simpa [h0, h1, show l.length < 140737488355328 by omega] using this
    · simp [h0, h1]; exact Ev.now _
  · simp [h0]; exact Ev.now _
theorem putVar_length (l : List Int) (n : Int) : (putVar l n).1.length ≤ l.length + 64 := by
  unfold putVar
  split
  · rename_i h
    have := varBytes_length n.toNat
    have hlog : n.toNat.log2 < 64 := by
      by_cases hm : n.toNat = 0
      · rw [hm]; decide
      · exact (Nat.log2_lt hm).2 (by omega)
    simp
    omega
  · simp
theorem putVar_bytes (l : List Int) (n : Int) (hl : Bytes l) : Bytes (putVar l n).1 := by
  unfold putVar
  split
  · exact hl.app (varBytes_bytes _)
  · exact Bytes.nil
/-- What is read of a number from place a + i on, n being there already. -/
def readVar (l : List Int) (a : Nat) : Nat → Nat → Int → Int × Int × Int
  | 0, _, _ => (0, 0, 2)
  | d + 1, i, n =>
    if h : a + i < l.length then
      if (i > 0 ∧ l[a + i] = 0) ∨ (i = 8 ∧ l[a + i] ≥ 128) then (0, 0, 2)
      else if l[a + i] < 128 then (if n + l[a + i] * 2 ^ (7 * i) > 1152921504606846975 then (0, 0, 2) else (n + l[a + i] * 2 ^ (7 * i), (a : Int) + (i : Int) + 1, 0))
      else readVar l a d (i + 1) (n + l[a + i] % 128 * 2 ^ (7 * i))
    else (0, 0, 1)
def getVar (l : List Int) (a : Int) : Int × Int × Int := if 0 ≤ a ∧ a ≤ (l.length : Int) then readVar l a.toNat 9 0 0 else (0, 0, 1)
theorem gv_next {n P Q : Int} (n0 : 0 ≤ n) (n1 : n < P) (q0 : 0 ≤ Q) (q1 : Q ≤ 127 * P) : 0 ≤ n + Q ∧ n + Q < 128 * P := by omega
theorem pow7 : ∀ i : Nat, i ≤ 8 → (0 : Int) < 2 ^ (7 * i) ∧ (2 : Int) ^ (7 * i) ≤ 72057594037927936 ∧ (2 : Int) ^ (7 * (i + 1)) = 128 * 2 ^ (7 * i) := by
  intro i hi
  have h : ∀ j : Nat, j < 9 → (0 : Int) < 2 ^ (7 * j) ∧ (2 : Int) ^ (7 * j) ≤ 72057594037927936 := by decide +kernel
  obtain ⟨h0, h1⟩ := h i (by omega)
  refine ⟨h0, h1, ?_⟩
  rw [show 7 * (i + 1) = 7 + 7 * i by omega, Int.pow_add]
  rfl
theorem impl_getVar_step (l : List Int) (a : Nat) (hb : Bytes l) (hl : l.length ≤ 4194304) (ha : a ≤ l.length) (d i : Nat) (n : Int) (hi : i ≤ 8) (n0 : 0 ≤ n) (n1 : n < 2 ^ (7 * i)) (next : i < 8 → ∀ m : Int, 0 ≤ m → m < 2 ^ (7 * (i + 1)) → Ev (fun k => impl_GetVar.l0 k l (a : Int) m ((i + 1 : Nat) : Int)) (readVar l a d (i + 1) m)) : Ev (fun k => impl_GetVar.l0 k l (a : Int) n (i : Int)) (readVar l a (d + 1) i n) := by
  obtain ⟨p0, p1, p2⟩ := pow7 i hi
  have wa : wrap64 ((a : Int) + (i : Int)) = ((a + i : Nat) : Int) := by rw [wrap_in (by omega) (by omega)]; omega
  unfold readVar
  by_cases h : a + i < l.length
  · have hv := hb l[a + i] (List.getElem_mem h)
    have hrd := rd_at h
    rw [dif_pos h]
    have behind : ∀ b : Bool, b = decide ((i > 0 ∧ l[a + i] = 0) ∨ (i = 8 ∧ l[a + i] ≥ 128)) → Ev (fun k => impl_GetVar.j1 k l (a : Int) n (i : Int) l[a + i] b) (if (i > 0 ∧ l[a + i] = 0) ∨ (i = 8 ∧ l[a + i] ≥ 128) then (0, 0, 2) else if l[a + i] < 128 then (if n + l[a + i] * 2 ^ (7 * i) > 1152921504606846975 then (0, 0, 2) else (n + l[a + i] * 2 ^ (7 * i), (a : Int) + (i : Int) + 1, 0)) else readVar l a d (i + 1) (n + l[a + i] % 128 * 2 ^ (7 * i))) := by
      intro b hbb
      by_cases hc : (i > 0 ∧ l[a + i] = 0) ∨ (i = 8 ∧ l[a + i] ≥ 128)
      · rw [decide_eq_true hc] at hbb
        subst hbb
        rw [if_pos hc]
        exact Ev.step (f := fun _ => some (0, 0, 2)) (fun _ => by simp only [impl_GetVar.j1, if_true]) (Ev.now _)
      · rw [decide_eq_false hc] at hbb
        subst hbb
        rw [if_neg hc]
        have q0 : 0 ≤ l[a + i] % 128 * 2 ^ (7 * i) := Int.mul_nonneg (by omega) (by omega)
        have q1 : l[a + i] % 128 * 2 ^ (7 * i) ≤ 127 * 2 ^ (7 * i) := Int.mul_le_mul_of_nonneg_right (by omega) (by omega)
        have u1 : Go.bits .and .u8 l[a + i] 127 = l[a + i] % 128 := bits_mask .u8 8 (by decide) wraps_u8 7 (by decide) _ hv.1 (by omega)
        have w0 : wrap64 (l[a + i] % 128) = l[a + i] % 128 := wrap_in (by omega) (by omega)
        have w7 : wrap64 (7 * (i : Int)) = 7 * (i : Int) := wrap_in (by omega) (by omega)
        have c7 : (0 : Int) ≤ 7 * (i : Int) := by omega
        have t7 : (7 * (i : Int)).toNat = 7 * i := by omega
        have s1 : shl .i64 (l[a + i] % 128) (7 * (i : Int)) = l[a + i] % 128 * 2 ^ (7 * i) := by
          rw [shl_i64 _ _ (by omega) (by omega) (by rw [t7]; exact q0) (by rw [t7]; omega), t7]
        have o1 : Go.bits .or .i64 n (l[a + i] % 128 * 2 ^ (7 * i)) = n + l[a + i] % 128 * 2 ^ (7 * i) := or_add n _ (7 * i) n0 n1 q0 (by rw [Int.mul_emod_left]) (by omega) (by omega)
        by_cases hs : l[a + i] < 128
        · rw [if_pos hs]
          have e : l[a + i] % 128 = l[a + i] := by omega
          rw [e] at u1 w0 s1 o1 q0
          have w3 : wrap64 (((a + i : Nat) : Int) + 1) = (a : Int) + (i : Int) + 1 := by rw [wrap_in (by omega) (by omega)]; omega
          by_cases hg : n + l[a + i] * 2 ^ (7 * i) > 1152921504606846975
          · rw [if_pos hg]
            have en : impl_isNum.f (n + l[a + i] * 2 ^ (7 * i)) = some false := by
              unfold impl_isNum.f impl_within.f
              rw [if_pos (by omega), decide_eq_false (by omega)]
              rfl
            refine Ev.step (f := fun _ => some (0, 0, 2)) (fun _ => ?_) (Ev.now _)
            simp only [impl_GetVar.j1, Bool.false_eq_true, if_false, w7, if_pos c7, if_pos hs, u1, w0, s1, o1, en, Option.bind_some]
          · rw [if_neg hg]
            have en : impl_isNum.f (n + l[a + i] * 2 ^ (7 * i)) = some true := by
              unfold impl_isNum.f impl_within.f
              rw [if_pos (by omega), decide_eq_true (by omega)]
              rfl
            refine Ev.step (f := fun _ => some _) (fun _ => ?_) (Ev.now _)
            simp only [impl_GetVar.j1, Bool.false_eq_true, if_false, w7, if_pos c7, if_pos hs, u1, w0, s1, o1, en, Option.bind_some, if_true, wa, w3]
        · rw [if_neg hs]
          have i7 : i < 8 := by omega
          have w5 : wrap64 ((i : Int) + 1) = ((i + 1 : Nat) : Int) := wrap_succ (by omega)
          refine Ev.step (f := fun k => impl_GetVar.l0 k l (a : Int) (n + l[a + i] % 128 * 2 ^ (7 * i)) ((i + 1 : Nat) : Int)) (fun _ => ?_) (next i7 (n + l[a + i] % 128 * 2 ^ (7 * i)) (gv_next n0 n1 q0 q1).1 (by rw [p2]; exact (gv_next n0 n1 q0 q1).2))
          simp only [impl_GetVar.j1, Bool.false_eq_true, if_false, w7, if_pos c7, if_neg hs, u1, w0, s1, o1, w5]
    have c0 : ¬ (((a + i : Nat) : Int) ≥ (l.length : Int)) := by omega
    have c1 : (0 : Int) ≤ ((a + i : Nat) : Int) := by omega
    have c2 : ((a + i : Nat) : Int) < (l.length : Int) := by omega
    by_cases hi0 : i > 0
    · have c4 : (i : Int) > 0 := by omega
      by_cases hz : l[a + i] = 0
      · refine Ev.step (f := fun k => impl_GetVar.j1 k l (a : Int) n (i : Int) l[a + i] true) (fun _ => ?_) (behind _ ?_)
        · simp only [impl_GetVar.l0, wa, if_neg c0, if_pos c1, if_pos c2, hrd, if_pos c4, if_pos hz]
        · exact (decide_eq_true (by omega)).symm
      · by_cases h8 : i = 8
        · have c5 : (i : Int) = 8 := by omega
          refine Ev.step (f := fun k => impl_GetVar.j1 k l (a : Int) n (i : Int) l[a + i] (decide (l[a + i] ≥ 128))) (fun _ => ?_) (behind _ ?_)
          · simp only [impl_GetVar.l0, wa, if_neg c0, if_pos c1, if_pos c2, hrd, if_pos c4, if_neg hz, if_pos c5]
          · exact decide_eq_decide.2 (by omega)
        · have c5 : ¬ (i : Int) = 8 := by omega
          refine Ev.step (f := fun k => impl_GetVar.j1 k l (a : Int) n (i : Int) l[a + i] false) (fun _ => ?_) (behind _ ?_)
          · simp only [impl_GetVar.l0, wa, if_neg c0, if_pos c1, if_pos c2, hrd, if_pos c4, if_neg hz, if_neg c5]
          · exact (decide_eq_false (by omega)).symm
    · have c4 : ¬ (i : Int) > 0 := by omega
      have c5 : ¬ (i : Int) = 8 := by omega
      refine Ev.step (f := fun k => impl_GetVar.j1 k l (a : Int) n (i : Int) l[a + i] false) (fun _ => ?_) (behind _ ?_)
      · simp only [impl_GetVar.l0, wa, if_neg c0, if_pos c1, if_pos c2, hrd, if_neg c4, if_neg c5]
      · exact (decide_eq_false (by omega)).symm
  · rw [dif_neg h]
    have c0 : (((a + i : Nat) : Int) ≥ (l.length : Int)) := by omega
    refine Ev.step (f := fun _ => some (0, 0, 1)) (fun _ => ?_) (Ev.now _)
    simp only [impl_GetVar.l0, wa, if_pos c0]
theorem impl_getVar_l0 (l : List Int) (a : Nat) (hb : Bytes l) (hl : l.length ≤ 4194304) (ha : a ≤ l.length) : ∀ (d i : Nat) (n : Int), 8 - i = d → i ≤ 8 → 0 ≤ n → n < 2 ^ (7 * i) → Ev (fun k => impl_GetVar.l0 k l (a : Int) n (i : Int)) (readVar l a (d + 1) i n) := by
  intro d
  induction d with
  | zero =>
    intro i n hd hi n0 n1
    exact impl_getVar_step l a hb hl ha 0 i n hi n0 n1 (fun h => by omega)
  | succ d ih =>
    intro i n hd hi n0 n1
    exact impl_getVar_step l a hb hl ha (d + 1) i n hi n0 n1 (fun h m m0 m1 => ih (i + 1) m (by omega) (by omega) m0 m1)
theorem impl_getVar (l : List Int) (a : Int) (hb : Bytes l) (hl : l.length ≤ 4194304) : Ev (fun k => impl_GetVar.f k l a) (getVar l a) := by
  unfold impl_GetVar.f getVar
  have e : impl_within.f a 0 (l.length : Int) = some (decide (0 ≤ a ∧ a ≤ (l.length : Int))) := by
    unfold impl_within.f
    by_cases h0 : 0 ≤ a <;> simp [h0]
  refine ev_bind0 e ?_
  by_cases h0 : 0 ≤ a ∧ a ≤ (l.length : Int)
  · rw [if_pos h0]
    refine ev_pos (by simpa using h0) ?_
    obtain ⟨m, rfl⟩ := Int.eq_ofNat_of_zero_le h0.1
    exact impl_getVar_l0 l m hb hl (by omega) 8 0 0 rfl (by omega) (by omega) (by decide)
  · rw [if_neg h0]
    exact ev_neg (by simpa using h0) (Ev.now _)
theorem impl_putFix_l0 (w n : Nat) (hw : w ≤ 7) (hn : n ≤ 9223372036854775807) (acc : List Int) (ha : acc.length ≤ 140737488354000) : ∀ (d i : Nat), w - i = d → i ≤ w → Ev (fun k => impl_PutFix.l0 k (n : Int) (acc ++ digs n i) (w : Int) (i : Int)) (acc ++ digs n w, true) := by
  intro d
  induction d with
  | zero =>
    intro i hd hi
    refine Ev.step (fun _ => rfl) (ev_neg (by omega) (ev_some ?_))
    rw [show i = w by omega]
  | succ d ih =>
    intro i hd hi
    have hlen := digs_length i n
    refine Ev.step (fun _ => rfl) (ev_pos (by omega) (ev_pos (by rw [wrap_in (by omega) (by omega)]; omega) (ev_pos (by rw [List.length_append]; omega) ?_)))
    rw [wrap_succ (by omega), wrap_in (n := 8 * (i : Int)) (by omega) (by omega), shr_i64 _ _ (by omega) (by omega), show (8 * (i : Int)).toNat = 8 * i by omega]
    have e : (n : Int) / 2 ^ (8 * i) % 256 = ((n / 256 ^ i % 256 : Nat) : Int) := by
      rw [← pow256]
      simp
    rw [e, List.append_assoc, ← digs_snoc]
    exact ih (i + 1) (by omega) (by omega)
def putFix (l : List Int) (n w : Int) : List Int × Bool := if (1 ≤ w ∧ w ≤ 7) ∧ 0 ≤ n ∧ n < 256 ^ w.toNat then (l ++ digs n.toNat w.toNat, true) else ([], false)
theorem top_eq (w : Int) (h0 : 1 ≤ w) (h1 : w ≤ 7) : shl .i64 1 (wrap64 (8 * w)) = 256 ^ w.toNat ∧ (256 : Int) ^ w.toNat ≤ 72057594037927936 := by
  have hc : w = 1 ∨ w = 2 ∨ w = 3 ∨ w = 4 ∨ w = 5 ∨ w = 6 ∨ w = 7 := by omega
  rcases hc with rfl | rfl | rfl | rfl | rfl | rfl | rfl <;> decide +kernel
theorem impl_putFix (l : List Int) (n w : Int) (hl : l.length ≤ 4194304) : Ev (fun k => impl_PutFix.f k l n w) (putFix l n w) := by
  unfold impl_PutFix.f putFix impl_within.f
  have no : Ev (fun k => impl_PutFix.j0 k l n w true) ([], false) := Ev.step (f := fun _ => some ([], false)) (fun _ => by simp only [impl_PutFix.j0, if_true]) (Ev.now _)
  by_cases h0 : 1 ≤ w
  · by_cases h1 : w ≤ 7
    · rw [if_pos h0, show decide (w ≤ 7) = true by simpa using h1]
      simp only [Option.bind_some, if_true]
      by_cases h2 : n < 0
      · rw [if_neg (by omega)]
        exact ev_pos h2 no
      · obtain ⟨e, et⟩ := top_eq w h0 h1
        refine ev_neg h2 (ev_pos (by rw [wrap_in (by omega) (by omega)]; omega) ?_)
        rw [e]
        by_cases h3 : n < 256 ^ w.toNat
        · rw [if_pos (by omega), show decide (n ≥ 256 ^ w.toNat) = false by simp; omega]
          obtain ⟨m, rfl⟩ := Int.eq_ofNat_of_zero_le (show 0 ≤ n by omega)
          obtain ⟨v, rfl⟩ := Int.eq_ofNat_of_zero_le (show 0 ≤ w by omega)
          have hc : impl_copyBytes.f l = some l := by
            unfold impl_copyBytes.f
            simp only [Option.bind_some, List.nil_append, List.length_nil, Nat.zero_add]
            rw [if_pos (by omega)]
          refine Ev.step (f := fun k => (impl_copyBytes.f l).bind fun t131 => (impl_PutFix.l0 k (m : Int) t131 (v : Int) 0)) (fun _ => by simp only [impl_PutFix.j0, Bool.false_eq_true, if_false]) (ev_bind0 hc ?_)
          have := impl_putFix_l0 v m (by omega) (by omega) l (by omega) v 0 (by omega) (by omega)
          simpa [digs] using this
        · rw [if_neg (by omega), show decide (n ≥ 256 ^ w.toNat) = true by simp; omega]
          exact no
    · rw [if_pos h0, show decide (w ≤ 7) = false by simp; omega, if_neg (by omega)]
      exact no
  · rw [if_neg h0, if_neg (by omega)]
    exact no
theorem putFix_length (l : List Int) (n w : Int) : (putFix l n w).1.length ≤ l.length + 7 := by
  unfold putFix
  split
  · simp [digs_length]; omega
  · simp
def getRaw (l : List Int) (a n : Int) : List Int × Int × Int := if (0 ≤ a ∧ a ≤ l.length) ∧ 0 ≤ n ∧ n ≤ l.length - a then ((l.take (a + n).toNat).drop a.toNat, a + n, 0) else ([], 0, 1)
theorem impl_getRaw (l : List Int) (a n : Int) (hl : l.length ≤ 4194304) : impl_GetRaw.f l a n = some (getRaw l a n) := by
  unfold impl_GetRaw.f getRaw impl_within.f
  by_cases h1 : 0 ≤ a
  · by_cases h3 : a ≤ (l.length : Int)
    · rw [if_pos h1, show decide (a ≤ (l.length : Int)) = true by simpa using h3, wrap_in (n := (l.length : Int) - a) (by omega) (by omega)]
      simp only [Option.bind_some, if_true]
      by_cases h2 : 0 ≤ n
      · by_cases h4 : n ≤ (l.length : Int) - a
        · rw [if_pos h2, show decide (n ≤ (l.length : Int) - a) = true by simpa using h4]
          simp only [Option.bind_some, if_true]
          rw [if_pos (by omega), wrap_in (n := a + n) (by omega) (by omega), if_pos (by omega), if_pos (by omega), if_pos (by omega)]
          have hlen : ((l.take (a + n).toNat).drop a.toNat).length ≤ l.length := by simp; omega
          unfold impl_copyBytes.f
          simp only [Option.bind_some, List.nil_append, List.length_nil, Nat.zero_add]
          rw [if_pos (by omega)]
          rfl
        · rw [if_pos h2, show decide (n ≤ (l.length : Int) - a) = false by simp; omega]
          simp only [Option.bind_some, Bool.false_eq_true, if_false]
          rw [if_neg (by omega)]
      · rw [if_neg h2]
        simp only [Option.bind_some, Bool.false_eq_true, if_false]
        rw [if_neg (by omega)]
    · rw [if_pos h1, show decide (a ≤ (l.length : Int)) = false by simp; omega]
      simp only [Option.bind_some, Bool.false_eq_true, if_false]
      rw [if_neg (by omega)]
  · rw [if_neg h1]
    simp only [Option.bind_some, Bool.false_eq_true, if_false]
    rw [if_neg (by omega)]
theorem getRaw_length (l : List Int) (a n : Int) : (getRaw l a n).1.length ≤ l.length := by
  unfold getRaw
  split
  · simp; omega
  · simp
theorem getRaw_bytes (l : List Int) (a n : Int) (h : Bytes l) : Bytes (getRaw l a n).1 := by
  unfold getRaw
  split
  · exact (h.take _).drop _
  · exact Bytes.nil
def getRawI (l : List Int) (a n : Int) : List Int × Int × Int := if (0 ≤ a ∧ a ≤ l.length) ∧ 0 ≤ n ∧ n ≤ l.length - a then ((l.take (a + n).toNat).drop a.toNat, a + n, 0) else ([], 0, 1)
theorem impl_getRawI (l : List Int) (a n : Int) (hl : l.length ≤ 4194304) : impl_GetRaw.f l a n = some (getRawI l a n) := by
  unfold impl_GetRaw.f getRawI impl_within.f
  by_cases h1 : 0 ≤ a
  · by_cases h3 : a ≤ (l.length : Int)
    · rw [if_pos h1, show decide (a ≤ (l.length : Int)) = true by simpa using h3, wrap_in (n := (l.length : Int) - a) (by omega) (by omega)]
      simp only [Option.bind_some, if_true]
      by_cases h2 : 0 ≤ n
      · by_cases h4 : n ≤ (l.length : Int) - a
        · rw [if_pos h2, show decide (n ≤ (l.length : Int) - a) = true by simpa using h4]
          simp only [Option.bind_some, if_true]
          rw [if_pos (by omega), wrap_in (n := a + n) (by omega) (by omega), if_pos (by omega), if_pos (by omega), if_pos (by omega)]
          have hlen : ((l.take (a + n).toNat).drop a.toNat).length ≤ l.length := by simp; omega
          unfold impl_copyBytes.f
          simp only [Option.bind_some, List.nil_append, List.length_nil, Nat.zero_add]
          rw [if_pos (by omega)]
          rfl
        · rw [if_pos h2, show decide (n ≤ (l.length : Int) - a) = false by simp; omega]
          simp only [Option.bind_some, Bool.false_eq_true, if_false]
          rw [if_neg (by omega)]
      · rw [if_neg h2]
        simp only [Option.bind_some, Bool.false_eq_true, if_false]
        rw [if_neg (by omega)]
    · rw [if_pos h1, show decide (a ≤ (l.length : Int)) = false by simp; omega]
      simp only [Option.bind_some, Bool.false_eq_true, if_false]
      rw [if_neg (by omega)]
  · rw [if_neg h1]
    simp only [Option.bind_some, Bool.false_eq_true, if_false]
    rw [if_neg (by omega)]
def seg (l : List Int) (a w : Nat) : List Int := (l.take (a + w)).drop a
theorem seg_length (l : List Int) (a w : Nat) (h : a + w ≤ l.length) : (seg l a w).length = w := by simp [seg]; omega
theorem seg_at (l : List Int) (a w i : Nat) (h : a + w ≤ l.length) (hi : i < w) : (seg l a w)[i]'(by rw [seg_length l a w h]; exact hi) = l[a + i] := by
  simp [seg]
def getFix (l : List Int) (a w : Int) : Int × Int × Int := if 1 ≤ w ∧ w ≤ 7 then (if 0 ≤ a ∧ a ≤ l.length - w then (leVal (seg l a.toNat w.toNat), a + w, 0) else (0, 0, 1)) else (0, 0, 5)
theorem impl_getFix_l0 (s : List Int) (hb : Bytes s) (hl : s.length ≤ 7) (x y : Int) : ∀ (d i : Nat), s.length - i = d → i ≤ s.length → Ev (fun k => impl_GetFix.l0 k x y (leVal (s.take i)) s (s.length : Int) (i : Int)) (leVal s, x, y) := by
  intro d
  induction d with
  | zero =>
    intro i hd hi
    refine Ev.step (fun _ => rfl) (ev_neg (by omega) (ev_some ?_))
    rw [List.take_of_length_le (by omega)]
  | succ d ih =>
    intro i hd hi
    have hi' : i < s.length := by omega
    have hv := hb s[i] (List.getElem_mem hi')
    have ht : (s.take i).length = i := by simp; omega
    have hr := leVal_range (s.take i) (hb.take _)
    rw [ht] at hr
    have hp : ∀ j : Nat, j ≤ 6 → (2 : Int) ^ (8 * j) ≤ 281474976710656 ∧ (0 : Int) < 2 ^ (8 * j) := by decide
    obtain ⟨p1, p0⟩ := hp i (by omega)
    refine Ev.step (fun _ => rfl) (ev_pos (by omega) (ev_pos (by omega) (ev_pos (by omega) (ev_pos (by rw [wrap_in (by omega) (by omega)]; omega) ?_))))
    rw [wrap_in (n := 8 * (i : Int)) (by omega) (by omega), rd_at hi', wrap_in (n := s[i]) (by omega) (by omega), wrap_succ (by omega)]
    have q0 : 0 ≤ s[i] * 2 ^ (8 * i) := Int.mul_nonneg hv.1 (by omega)
    have q1 : s[i] * 2 ^ (8 * i) ≤ 255 * 281474976710656 := Int.mul_le_mul hv.2 p1 (by omega) (by omega)
    have hn : (8 * (i : Int)).toNat = 8 * i := by omega
    rw [shl_i64 s[i] (8 * (i : Int)) (by omega) (by omega) (by rw [hn]; exact q0) (by rw [hn]; omega), hn]
    rw [or_add (leVal (s.take i)) _ (8 * i) hr.1 (by rw [← pow256]; exact hr.2) q0 (by rw [Int.mul_emod_left]) (by omega) (by omega)]
    have e : leVal (s.take (i + 1)) = leVal (s.take i) + s[i] * 2 ^ (8 * i) := by
      rw [List.take_succ_eq_append_getElem hi', leVal_snoc, ht, pow256]
    rw [← e]
    exact ih (i + 1) (by omega) (by omega)
theorem impl_getFix (l : List Int) (a w : Int) (hb : Bytes l) (hl : l.length ≤ 4194304) (ha : -9223372036854775808 ≤ a ∧ a ≤ 9223372036854775807) : Ev (fun k => impl_GetFix.f k l a w) (getFix l a w) := by
  unfold impl_GetFix.f getFix
  have e0 : impl_within.f w 1 7 = some (decide (1 ≤ w ∧ w ≤ 7)) := by
    unfold impl_within.f
    by_cases h0 : 1 ≤ w <;> simp [h0]
  refine ev_bind0 e0 ?_
  by_cases h0 : 1 ≤ w ∧ w ≤ 7
  · rw [if_pos h0]
    refine ev_pos (by simpa using h0) (ev_bind0 (impl_getRawI l a w hl) ?_)
    by_cases h3 : 0 ≤ a ∧ a ≤ (l.length : Int) - w
    · rw [if_pos h3]
      obtain ⟨m, rfl⟩ := Int.eq_ofNat_of_zero_le (show 0 ≤ a by omega)
      obtain ⟨v, rfl⟩ := Int.eq_ofNat_of_zero_le (show 0 ≤ w by omega)
      have e : getRawI l (m : Int) (v : Int) = (seg l m v, (m : Int) + (v : Int), 0) := by
        unfold getRawI seg
        rw [if_pos (by omega)]
        rw [show ((m : Int) + (v : Int)).toNat = m + v by omega, Int.toNat_natCast]
      rw [e]
      have hs := seg_length l m v (by omega)
      have := impl_getFix_l0 (seg l m v) ((hb.take _).drop _) (by omega) ((m : Int) + (v : Int)) 0 _ 0 rfl (by omega)
      simpa [leVal] using this
    · rw [if_neg h3]
      have e : getRawI l a w = ([], 0, 1) := by
        unfold getRawI
        rw [if_neg (by omega)]
      rw [e]
      exact impl_getFix_l0 [] Bytes.nil (by simp) 0 1 0 0 rfl (by simp)
  · rw [if_neg h0]
    exact ev_neg (by simpa using h0) (Ev.now _)
def putText (l x : List Int) : List Int := (putVar l (x.length : Int)).1 ++ x
theorem impl_putText (l x : List Int) (hl : l.length ≤ 4194304) (hx : x.length ≤ 4194304) : Ev (fun k => impl_PutText.f k l x) (putText l x) := by
  have := putVar_length l (x.length : Int)
  exact Ev.bind (impl_putVar l (x.length : Int) hl) (ev_pos (by omega) (Ev.now _))
theorem putText_length (l x : List Int) : (putText l x).length ≤ l.length + x.length + 64 := by
  have := putVar_length l (x.length : Int)
  unfold putText
  rw [List.length_append]
  omega
def getText (l : List Int) (a m : Int) : List Int × Int × Int := if (getVar l a).2.2 = 0 then (if (getVar l a).1 > m then ([], 0, 3) else getRaw l (getVar l a).2.1 (getVar l a).1) else ([], 0, (getVar l a).2.2)
theorem impl_getText (l : List Int) (a m : Int) (hb : Bytes l) (hl : l.length ≤ 4194304) : Ev (fun k => impl_GetText.f k l a m) (getText l a m) := by
  unfold impl_GetText.f getText
  refine Ev.bind (impl_getVar l a hb hl) ?_
  exact ev_ite (fun h0 => ev_ite (fun h1 => Ev.now _) (fun h1 => ev_bind0 (impl_getRaw l _ _ hl) (Ev.now _))) (fun h0 => Ev.now _)
theorem getText_length (l : List Int) (a m : Int) : (getText l a m).1.length ≤ l.length := by
  unfold getText
  split
  · split
    · simp
    · exact getRaw_length _ _ _
  · simp
theorem nm_same (a : List Int) : impl_SameBytes.f a a = some true := by
  unfold impl_SameBytes.f
  rw [beq_self_eq_true]
theorem nm_sum (n q P : Int) : n + q % 128 * P + q / 128 * (128 * P) = n + q * P := by
  have h : q * P = (128 * (q / 128) + q % 128) * P := by rw [show 128 * (q / 128) + q % 128 = q by omega]
  rw [h, Int.add_mul, ← Int.mul_assoc, Int.mul_comm (q / 128) 128]
  omega
/-- What was written of a number is read back. -/
theorem nm_read : ∀ (d i q : Nat) (l s : List Int) (a : Nat) (n : Int), i + d = 5 → l.drop (a + i) = varBytes q ++ s → (i = 0 ∨ 0 < q) → q < 128 ^ d → 0 ≤ n → n + (q : Int) * 2 ^ (7 * i) ≤ 1152921504606846975 → readVar l a (d + 4) i n = (n + (q : Int) * 2 ^ (7 * i), (a : Int) + (i : Int) + ((varBytes q).length : Int), 0) := by
  intro d
  induction d with
  | zero =>
    intro i q l s a n hi hd h0 hq n0 hn
    exfalso
    simp at hq
    omega
  | succ d ih =>
    intro i q l s a n hi hd h0 hq n0 hn
    have hlen : 0 < (l.drop (a + i)).length := by
      have := varBytes_pos q
      rw [hd, List.length_append]
      omega
    have hl : a + i < l.length := by
      rw [List.length_drop] at hlen
      omega
    have hc := List.drop_eq_getElem_cons hl
    rw [hd] at hc
    rw [show d + 1 + 4 = (d + 4) + 1 by omega]
    unfold readVar
    rw [dif_pos hl]
    by_cases h : q < 128
    · rw [varBytes_small h] at hc ⊢
      simp only [List.cons_append, List.nil_append, List.cons.injEq] at hc
      rw [← hc.1, if_neg (by omega), if_pos (by omega), if_neg (Int.not_lt.2 hn)]
      rfl
    · rw [varBytes_big h] at hc ⊢
      simp only [List.cons_append, List.cons.injEq] at hc
      have e : ((q : Int) % 128 + 128) % 128 = (q : Int) % 128 := by omega
      rw [← hc.1, if_neg (by omega), if_neg (by omega), e]
      obtain ⟨p0, p1, p2⟩ := pow7 i (by omega)
      have hq' : q / 128 < 128 ^ d := by
        rw [Nat.pow_succ] at hq
        exact Nat.div_lt_of_lt_mul (by rw [Nat.mul_comm]; exact hq)
      have hs := nm_sum n q (2 ^ (7 * i))
      have r0 : 0 ≤ (q : Int) % 128 * 2 ^ (7 * i) := Int.mul_nonneg (by omega) (by omega)
      have := ih (i + 1) (q / 128) l s a (n + (q : Int) % 128 * 2 ^ (7 * i)) (by omega) (by rw [show a + (i + 1) = a + i + 1 by omega]; exact hc.2.symm) (Or.inr (by omega)) hq' (by omega) (by rw [p2, Int.natCast_ediv]; exact Int.le_trans (Int.le_of_eq hs) hn)
      rw [this, p2, Int.natCast_ediv]
      refine Prod.ext ?_ (Prod.ext ?_ rfl)
      · exact hs
      · simp only [List.length_cons]
        omega
theorem nm_get (l s : List Int) (a q : Nat) (h : l.drop a = varBytes q ++ s) (ha : a ≤ l.length) (hq : q < 4000000) : getVar l (a : Int) = ((q : Int), (a : Int) + ((varBytes q).length : Int), 0) := by
  unfold getVar
  rw [if_pos (by omega), Int.toNat_natCast]
  have := nm_read 5 0 q l s a 0 rfl (by rw [Nat.add_zero]; exact h) (Or.inl rfl) (by omega) (by omega) (by simp; omega)
  rw [show (9 : Nat) = 5 + 4 by rfl, this]
  simp
theorem nm_var (l : List Int) (m : Nat) (h : m < 4000000) : putVar l (m : Int) = (l ++ varBytes m, true) := by
  unfold putVar
  rw [if_pos (by omega), Int.toNat_natCast]
theorem nm_fix (m : Nat) (h : m < 4000000) : putFix [] (m : Int) 3 = (digs m 3, true) := by
  unfold putFix
  rw [if_pos ⟨by omega, by omega, by show (m : Int) < 256 ^ 3; omega⟩, Int.toNat_natCast]
  rfl
theorem nm_unfix (m : Nat) (h : m < 4000000) : getFix (digs m 3) 0 3 = ((m : Int), 3, 0) := by
  have hl := digs_length 3 m
  unfold getFix
  rw [if_pos (by omega), if_pos (by omega)]
  have e : seg (digs m 3) (0 : Int).toNat (3 : Int).toNat = digs m 3 := by
    unfold seg
    rw [List.take_of_length_le (by rw [hl]; decide)]
    rfl
  rw [e, leVal_bytes, Nat.mod_eq_of_lt (by omega)]
  rfl
theorem nm_numText (m : Nat) (h : m < 4000000) : impl_NumText.f (m : Int) = some (NumBase.decText m) := by
  unfold impl_NumText.f NumBase.numText
  rw [if_pos (by omega), if_pos (by omega), Int.toNat_natCast]
theorem nm_textNum (m : Nat) (h : m < 4000000) : impl_TextNum.f (NumBase.decText m) = some ((m : Int), true) := by
  have h1 := NumBase.dec_length 7 m (by omega) (by omega)
  have h2 : (NumBase.decText m).size = (Go.Lib.decDigits m).length := by
    rw [NumBase.size_toList]
    simp [NumBase.decText]
  unfold impl_TextNum.f
  rw [if_pos (by omega), NumBase.textNum_dec (by omega)]
theorem nm_size (m : Nat) (h : m < 4000000) : Ev (fun k => impl_VarSize.f k (m : Int)) ((varBytes m).length : Int) := by
  have := impl_putVar [] (m : Int) (by simp)
  rw [nm_var [] m h] at this
  exact Ev.bind this (Ev.now _)
/-! Hexadecimal text, there and back. -/
def hexVal (x : Int) : Int := if 48 ≤ x ∧ x ≤ 57 then x - 48 else if 97 ≤ x ∧ x ≤ 102 then x - 87 else -1
theorem index_all : ∀ x : Fin 256, Lib.indexByte [48, 49, 50, 51, 52, 53, 54, 55, 56, 57, 97, 98, 99, 100, 101, 102] x.val.toUInt8 = hexVal (x.val : Int) := by decide +kernel
theorem impl_hexOf (x : Int) (h0 : 0 ≤ x) (h1 : x ≤ 255) : strings_IndexByte.f (⟨#[48, 49, 50, 51, 52, 53, 54, 55, 56, 57, 97, 98, 99, 100, 101, 102]⟩ : ByteArray) x = some (hexVal x) := by
  have := index_all ⟨x.toNat, by omega⟩
  simp only [Int.toNat_of_nonneg h0] at this
  unfold strings_IndexByte.f
  rw [← this]
theorem nm_digit (n : Int) (h0 : 0 ≤ n) (h1 : n < 16) : hexVal (hexDigitI n) = n ∧ 0 ≤ hexDigitI n ∧ hexDigitI n ≤ 255 := by
  have hc : n = 0 ∨ n = 1 ∨ n = 2 ∨ n = 3 ∨ n = 4 ∨ n = 5 ∨ n = 6 ∨ n = 7 ∨ n = 8 ∨ n = 9 ∨ n = 10 ∨ n = 11 ∨ n = 12 ∨ n = 13 ∨ n = 14 ∨ n = 15 := by omega
  rcases hc with rfl | rfl | rfl | rfl | rfl | rfl | rfl | rfl | rfl | rfl | rfl | rfl | rfl | rfl | rfl | rfl <;> decide
theorem nm_bt (l : List Int) (i : Nat) (h : i < l.length) (h0 : 0 ≤ l[i]) (h1 : l[i] ≤ 255) : bt (strOfNums l) (i : Int) = l[i] := by
  have hs : (strOfNums l).size = l.length := by unfold strOfNums; simp [ByteArray.size]
  unfold bt
  rw [dif_pos (by rw [Int.toNat_natCast, hs]; exact h)]
  have e : (strOfNums l)[(i : Int).toNat]'(by rw [Int.toNat_natCast, hs]; exact h) = UInt8.ofNat l[i].toNat := by
    simp only [Int.toNat_natCast]
    show (strOfNums l).data[i]'(by rw [ByteArray.size_data, hs]; exact h) = _
    simp [strOfNums]
  rw [e, UInt8.toNat_ofNat']
  omega
theorem nm_strSize (l : List Int) : (strOfNums l).size = l.length := by
  unfold strOfNums
  simp [ByteArray.size]
theorem nm_hexAt (l : List Int) : ∀ (i : Nat) (h : i < l.length) (h2 : 2 * i + 1 < (hexOfI l).length), (hexOfI l)[2 * i]'(by omega) = hexDigitI (l[i] / 16) ∧ (hexOfI l)[2 * i + 1] = hexDigitI (l[i] % 16) := by
  induction l with
  | nil => intro i h; cases h
  | cons x l ih =>
    intro i h h2
    have hx : hexOfI (x :: l) = hexDigitI (x / 16) :: hexDigitI (x % 16) :: hexOfI l := rfl
    cases i with
    | zero => exact ⟨rfl, rfl⟩
    | succ i =>
      have hl := hexOfI_length l
      have q := ih i (by simpa using h) (by rw [hl]; simp at h; omega)
      simp only [hx, show 2 * (i + 1) = 2 * i + 1 + 1 by omega, List.getElem_cons_succ]
      exact q
theorem nm_textHex_l0 (l : List Int) (hb : Bytes l) (hl : l.length ≤ 500000) : ∀ (d i : Nat), l.length - i = d → i ≤ l.length → Ev (fun k => impl_TextHex.l0 k (strOfNums (hexOfI l)) (l.take i) ((2 * i : Nat) : Int)) (l, true) := by
  have hs := nm_strSize (hexOfI l)
  have hx := hexOfI_length l
  intro d
  induction d with
  | zero =>
    intro i hd hi
    refine Ev.step (fun _ => rfl) (ev_neg (by omega) (ev_some ?_))
    rw [List.take_of_length_le (by omega)]
  | succ d ih =>
    intro i hd hi
    have hi' : i < l.length := by omega
    have hv := hb l[i] (List.getElem_mem hi')
    obtain ⟨a1, a2⟩ := nm_hexAt l i hi' (by omega)
    obtain ⟨d1, d2, d3⟩ := nm_digit (l[i] / 16) (by omega) (by omega)
    obtain ⟨g1, g2, g3⟩ := nm_digit (l[i] % 16) (by omega) (by omega)
    have b1 : bt (strOfNums (hexOfI l)) ((2 * i : Nat) : Int) = hexDigitI (l[i] / 16) := by
      rw [nm_bt _ (2 * i) (by omega) (by rw [a1]; exact d2) (by rw [a1]; exact d3), a1]
    have b2 : bt (strOfNums (hexOfI l)) ((2 * i + 1 : Nat) : Int) = hexDigitI (l[i] % 16) := by
      rw [nm_bt _ (2 * i + 1) (by omega) (by rw [a2]; exact g2) (by rw [a2]; exact g3), a2]
    have w1 : wrap64 (((2 * i : Nat) : Int) + 1) = ((2 * i + 1 : Nat) : Int) := by rw [wrap_in (by omega) (by omega)]; omega
    have w2 : wrap64 (((2 * i : Nat) : Int) + 2) = ((2 * (i + 1) : Nat) : Int) := by rw [wrap_in (by omega) (by omega)]; omega
    have f1 := impl_hexOf _ d2 d3
    have f2 := impl_hexOf _ g2 g3
    rw [d1] at f1
    rw [g1] at f2
    have hlt : (l.take i).length < 140737488355328 := by rw [List.length_take]; omega
    refine Ev.step (fun _ => rfl) (ev_pos (by omega) (ev_pos (by omega) ?_))
    rw [b1, w1, b2, w2]
    refine ev_bind0 f1 (ev_pos (by omega) (ev_pos (by omega) (ev_bind0 f2 (ev_neg (by omega) (ev_neg (by omega) (ev_pos hlt ?_))))))
    have e : (wrap64 ((wrap64 (16 * (l[i] / 16))) + l[i] % 16)) % 256 = l[i] := by
      rw [wrap_in (n := 16 * (l[i] / 16)) (by omega) (by omega), wrap_in (by omega) (by omega)]
      omega
    rw [e, ← List.take_succ_eq_append_getElem hi']
    exact ih (i + 1) (by omega) (by omega)
theorem nm_textHex (l : List Int) (hb : Bytes l) (hl : l.length ≤ 500000) : Ev (fun k => impl_TextHex.f k (strOfNums (hexOfI l))) (l, true) := by
  have hs := nm_strSize (hexOfI l)
  have hx := hexOfI_length l
  unfold impl_TextHex.f
  refine ev_neg (by omega) ?_
  have := nm_textHex_l0 l hb hl _ 0 rfl (by omega)
  simpa using this
/-! The law. -/
theorem nm_j0 (l : List Int) (hl : l.length ≤ 1048576) : Ev (fun k => laws_FnNum.j0 k l false) true := by
  obtain ⟨t, e1, tb, tl⟩ := makeBytes_some l 9 hl (by omega) (by omega)
  have hv := varBytes_length t.length
  have hlog : t.length.log2 < 64 := by
    by_cases hm : t.length = 0
    · rw [hm]; decide
    · exact (Nat.log2_lt hm).2 (by omega)
  have e2 := impl_putText [] t (by simp) (by omega)
  have ep : putText [] t = varBytes t.length ++ t := by
    unfold putText
    rw [nm_var [] t.length (by omega)]
    rfl
  rw [ep] at e2
  have e3 := impl_getText (varBytes t.length ++ t) 0 9 ((varBytes_bytes _).app tb) (by rw [List.length_append]; omega)
  have eg := nm_get (varBytes t.length ++ t) t 0 t.length (by simp) (by omega) (by omega)
  have er : getRaw (varBytes t.length ++ t) ((varBytes t.length).length : Int) (t.length : Int) = (t, ((varBytes t.length).length : Int) + (t.length : Int), 0) := by
    unfold getRaw
    rw [List.length_append, if_pos (by omega)]
    refine Prod.ext ?_ rfl
    simp only
    rw [List.take_of_length_le (by rw [List.length_append]; omega), Int.toNat_natCast, List.drop_left]
  have eg' : getVar (varBytes t.length ++ t) 0 = ((t.length : Int), ((varBytes t.length).length : Int), 0) := by
    refine Eq.trans eg (Prod.ext rfl (Prod.ext ?_ rfl))
    show ((0 : Nat) : Int) + ((varBytes t.length).length : Int) = ((varBytes t.length).length : Int)
    omega
  have et : getText (varBytes t.length ++ t) 0 9 = (t, ((varBytes t.length).length : Int) + (t.length : Int), 0) := by
    unfold getText
    rw [eg', if_pos rfl, if_neg (show ¬ ((t.length : Int) > 9) by omega)]
    exact er
  rw [et] at e3
  have h1 : (varBytes t.length).length = 1 := by rw [varBytes_small (by omega)]; rfl
  have e4 := impl_hexText t tb (by omega)
  have e5 := nm_textHex t tb (by omega)
  have ew : wrap64 ((t.length : Int) + 1) = ((varBytes t.length).length : Int) + (t.length : Int) := by rw [wrap_in (by omega) (by omega)]; omega
  refine Ev.step (f := (fun k => ((spec_MakeBytes.f k l 9).bind fun t281 => ((impl_PutText.f k ([] : List Int) t281).bind fun t284 => ((impl_GetText.f k t284 0 9).bind fun bt287 => ((impl_HexText.f k t281).bind fun t292 => ((impl_TextHex.f k t292).bind fun bt293 => (if bt287.2.2 = 0 then ((impl_SameBytes.f bt287.1 t281).bind fun t297 => (if t297 = true then (if bt287.2.1 = (wrap64 ((t281.length : Int) + 1)) then (if bt293.2 = true then ((impl_SameBytes.f bt293.1 t281).bind fun t298 => (some t298)) else (some false)) else (some false)) else (some false))) else (some false))))))))) (fun _ => by simp only [laws_FnNum.j0, Bool.false_eq_true, if_false]) ?_
  refine Ev.bind e1 (Ev.bind e2 (Ev.bind e3 (Ev.bind e4 (Ev.bind e5 (ev_pos rfl (ev_bind0 (nm_same t) (ev_pos rfl (ev_pos ew.symm (ev_pos rfl (ev_bind0 (nm_same t) (Ev.now _)))))))))))
theorem FnNum : laws_FnNum.Pure := by
  intro l _ _ _
  by_cases g : (l.length : Int) > 1048576
  · exact ⟨0, by simp only [laws_FnNum.f, if_pos g]⟩
  have hl : l.length ≤ 1048576 := by omega
  have main : Ev (fun k => laws_FnNum.f k l) true := by
    unfold laws_FnNum.f
    refine ev_neg g ?_
    obtain ⟨n, e1, n0, n1'⟩ := makeNum_some l 4000000 hl
    have n1 := n1' (by omega)
    obtain ⟨m, rfl⟩ := Int.eq_ofNat_of_zero_le n0
    have hm : m < 4000000 := by omega
    have hb : Bytes ([9] ++ varBytes m) := (Bytes.one (by omega) (by omega)).app (varBytes_bytes m)
    have hv := varBytes_length m
    have hlog : m.log2 < 64 := by
      by_cases h : m = 0
      · rw [h]; decide
      · exact (Nat.log2_lt h).2 (by omega)
    have hlen : ([9] ++ varBytes m : List Int).length = 1 + (varBytes m).length := by rw [List.length_append]; rfl
    have e2 := impl_putVar [9] (m : Int) (by simp)
    rw [nm_var [9] m hm] at e2
    have e3 := impl_getVar ([9] ++ varBytes m) 1 hb (by omega)
    have eg := nm_get ([9] ++ varBytes m) [] 1 m (by simp) (by omega) hm
    have eg' : getVar ([9] ++ varBytes m) 1 = ((m : Int), 1 + ((varBytes m).length : Int), 0) := eg
    rw [eg'] at e3
    have e4 := impl_putFix [] (m : Int) 3 (by simp)
    rw [nm_fix m hm] at e4
    have e5 := impl_getFix (digs m 3) 0 3 (digs_bytes 3 m) (by rw [digs_length]; omega) (by omega)
    rw [nm_unfix m hm] at e5
    refine Ev.bind e1 (Ev.bind e2 (Ev.bind e3 (Ev.bind e4 (Ev.bind e5 (ev_bind0 (nm_numText m hm) (ev_bind0 (nm_textNum m hm) ?_))))))
    refine ev_pos rfl (ev_pos rfl (ev_pos (by simp only [hlen]; omega) (ev_pos rfl (Ev.bind (nm_size m hm) (ev_pos ?_ (ev_pos rfl (ev_pos (by omega) (ev_pos rfl (ev_pos rfl (ev_pos rfl (ev_pos rfl ?_)))))))))))
    · simp only [hlen]
      rw [wrap_in (by omega) (by omega)]
      omega
    · simp only [bne_self_eq_false]
      exact nm_j0 l hl
  obtain ⟨K, h⟩ := main
  exact ⟨K, h K (Nat.le_refl _)⟩

end Go.Proofs.YtdhbfpfonnelgaaDoor.Pure
