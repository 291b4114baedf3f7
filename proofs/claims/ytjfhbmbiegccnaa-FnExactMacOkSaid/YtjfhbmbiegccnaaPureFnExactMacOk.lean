/- The program's function answers what the reference's answers, for all arguments: the printed law comes to true. Conditions: those of the printed statement alone. -/
import Derived.Test.YtjfhbmbiegccnaaQFnExactMacOkx4
import Derived.Test.YtjfhbmbiegccnaaLib
import Derived.Test.YtjfhbmbiegccnaaLibNum
import Derived.Test.YtjfhbmbiegccnaaLibSha
import Derived.Test.YtjfhbmbiegccnaaLibHash
import Derived.Test.YtjfhbmbiegccnaaLibMac
set_option linter.unusedVariables false
set_option linter.unusedSimpArgs false
set_option maxRecDepth 4000
namespace Go.Proofs.Ytjfhbmbiegccnaa.Pure
open Go.RowKit Go.Proofs.Ytjfhbmbiegccnaa.QFnExactMacOk Go.Proofs.YtjfhbmbiegccnaaW.PrintWords Go.Proofs.YtjfhbmbiegccnaaW.PrintLast Go.Proofs.YtjfhbmbiegccnaaW.PrintMore Go.Proofs.Ytjfhbmbiegccnaa.Lib

/-! ### laws_toByteS -/
theorem toByteS_l0 (l : List Int) (hl : l.length ≤ 1048576) : ∀ (d i : Nat) (ys : List Int), l.length - i = d → i ≤ l.length → ys.length = l.length → ys.take i = l.take i → Ev (fun k => laws_toByteS.l0 k l ys (i : Int)) l := by
  intro d
  induction d with
  | zero =>
    intro i ys hd hi hy ht
    refine Ev.step (fun _ => rfl) (ev_neg (by omega) (ev_some ?_))
    rw [List.take_of_length_le (by omega), List.take_of_length_le (by omega)] at ht
    exact ht
  | succ d ih =>
    intro i ys hd hi hy ht
    refine Ev.step (fun _ => rfl) (ev_pos (by omega) (ev_pos (by omega) (ev_pos (by omega) ?_)))
    rw [wrap_succ (by omega), rd_at (show i < l.length by omega), Int.toNat_natCast]
    exact ih (i + 1) _ (by omega) (by omega) (by simpa using hy) (set_take_succ ys l i (by omega) (by omega) ht)
theorem toByteS_ev (l : List Int) (hl : l.length ≤ 1048576) : Ev (fun k => laws_toByteS.f k l) l := by
  unfold laws_toByteS.f
  refine ev_pos (by omega) (ev_pos (by omega) ?_)
  rw [Int.toNat_natCast]
  exact toByteS_l0 l hl _ 0 _ rfl (by omega) (by simp) (by simp)

/-! ### laws_eqByteS -/
theorem eqByteS_l0 (a b : List Int) (hl : a.length ≤ 9000000000000000000) (hab : a.length = b.length) : ∀ (d i : Nat), a.length - i = d → i ≤ a.length → a.take i = b.take i → Ev (fun k => laws_eqByteS.l0 k a b (i : Int)) (decide (a = b)) := by
  intro d
  induction d with
  | zero =>
    intro i hd hi ht
    refine Ev.step (fun _ => rfl) (ev_neg (by omega) (ev_some ?_))
    rw [List.take_of_length_le (by omega), List.take_of_length_le (by omega)] at ht
    simp [ht]
  | succ d ih =>
    intro i hd hi ht
    refine Ev.step (fun _ => rfl) (ev_pos (by omega) (ev_pos (by omega) (ev_pos (by omega) ?_)))
    have ha : i < a.length := by omega
    have hb : i < b.length := by omega
    rw [rd_at ha, rd_at hb]
    by_cases e : a[i] = b[i]
    · refine ev_pos e ?_
      rw [wrap_succ (by omega)]
      exact ih (i + 1) (by omega) (by omega) (by rw [List.take_succ_eq_append_getElem ha, List.take_succ_eq_append_getElem hb, ht, e])
    · refine ev_neg e (ev_some ?_)
      have : a ≠ b := fun h => e (by subst h; rfl)
      simp [this]
theorem eqByteS_ev (a b : List Int) (hl : a.length ≤ 9000000000000000000) : Ev (fun k => laws_eqByteS.f k a b) (decide (a = b)) := by
  unfold laws_eqByteS.f
  by_cases h : a.length = b.length
  · refine ev_pos (by omega) ?_
    exact eqByteS_l0 a b hl h _ 0 rfl (by omega) (by simp)
  · refine ev_neg (by omega) (ev_some ?_)
    have : a ≠ b := fun e => h (by rw [e])
    simp [this]
theorem eqByteS_same (a : List Int) (hl : a.length ≤ 9000000000000000000) : Ev (fun k => laws_eqByteS.f k a a) true := ev_eq (by simp) (eqByteS_ev a a hl)

/-! ### spec_ShaPad -/
theorem spec_shaPad_l1 (n : Nat) (hl : n ≤ 4194304 * 8) : ∀ (j : Nat) (acc : List Int), j ≤ 8 → acc.length + j ≤ 140737488355000 → Ev (fun k => spec_ShaPad.l1 k acc (n : Int) ((j : Int) - 1)) (acc ++ beB n j) := by
  intro j
  induction j with
  | zero =>
    intro acc hj ha
    exact Ev.step (fun _ => rfl) (ev_neg (by omega) (ev_some (by simp [beB])))
  | succ j ih =>
    intro acc hj ha
    rw [show ((j + 1 : Nat) : Int) - 1 = (j : Int) by omega]
    refine Ev.step (fun _ => rfl) (ev_pos (by omega) (ev_pos (by rw [wrap_in (by omega) (by omega)]; omega) (ev_pos (by omega) ?_)))
    rw [wrap_in (n := 8 * (j : Int)) (by omega) (by omega), shr_i64 _ _ (by omega) (by omega), show (8 * (j : Int)).toNat = 8 * j by omega, wrap_in (n := (j : Int) - 1) (by omega) (by omega)]
    have e : (n : Int) / 2 ^ (8 * j) % 256 = ((n / 256 ^ j % 256 : Nat) : Int) := by
      rw [← pow256]
      simp
    rw [e]
    have := ih (acc ++ [((n / 256 ^ j % 256 : Nat) : Int)]) (by omega) (by simp; omega)
    simpa [beB] using this
theorem spec_shaPad_l0 (l : List Int) (hl : l.length ≤ 4194304) : ∀ (d : Nat) (acc : List Int), (acc.length + d) % 64 = 56 → d < 64 → acc.length + d ≤ 140737488354000 → Ev (fun k => spec_ShaPad.l0 k l acc) (acc ++ List.replicate d 0 ++ beB (8 * l.length) 8) := by
  intro d
  induction d with
  | zero =>
    intro acc h0 h1 ha
    refine Ev.step (fun _ => rfl) (ev_pos (by omega) ?_)
    rw [wrap_in (n := 8 * (l.length : Int)) (by omega) (by omega), show 8 * (l.length : Int) = ((8 * l.length : Nat) : Int) by omega]
    have := spec_shaPad_l1 (8 * l.length) (by omega) 8 acc (by omega) (by omega)
    simpa using this
  | succ d ih =>
    intro acc h0 h1 ha
    refine Ev.step (fun _ => rfl) (ev_neg (by omega) (ev_pos (by omega) ?_))
    have hl1 : (acc ++ [0]).length = acc.length + 1 := by simp
    have := ih (acc ++ [0]) (by rw [hl1, ← h0]; congr 1; omega) (by omega) (by rw [hl1]; omega)
    simpa [List.replicate_succ] using this
theorem spec_shaPad (l : List Int) (hl : l.length ≤ 4194304) : Ev (fun k => spec_ShaPad.f k l) (shaPad l) := by
  unfold spec_ShaPad.f
  have hc : spec_l01Copy.f l = some l := by
    unfold spec_l01Copy.f
    simp only [Option.bind_some, List.nil_append, List.length_nil, Nat.zero_add]
    rw [if_pos (by omega)]
  refine ev_bind0 hc (ev_pos (by omega) ?_)
  exact spec_shaPad_l0 l hl (missing l.length) (l ++ [128]) (by simp only [missing, List.length_append, List.length_cons, List.length_nil]; omega) (by unfold missing; omega) (by rw [List.length_append]; unfold missing; simp only [List.length_cons, List.length_nil]; omega)

/-! ### spec_Sha -/
theorem spec_sha_l1 (h : List Int) (hh : h.length = 8) : ∀ (d i : Nat) (acc : List Int), i + d = 8 → acc.length = 4 * i → Ev (fun k => spec_Sha.l1 k acc h 8 (i : Int)) (acc ++ shaOut (h.drop i)) := by
  intro d
  induction d with
  | zero =>
    intro i acc hi ha
    refine Ev.step (fun _ => rfl) (ev_neg (by omega) (ev_some ?_))
    rw [List.drop_of_length_le (by omega)]
    simp [shaOut]
  | succ d ih =>
    intro i acc hi ha
    refine Ev.step (fun _ => rfl) (ev_pos (by omega) (ev_pos (by omega) (ev_pos (by omega) (ev_bind0 rfl (ev_pos (by simp; omega) ?_)))))
    rw [wrap_succ (by omega)]
    have := ih (i + 1) (acc ++ word4 (rd h (i : Int))) (by omega) (by simp [word4]; omega)
    rw [rd_at (show i < h.length by omega)] at this ⊢
    rw [List.drop_eq_getElem_cons (show i < h.length by omega), shaOut_cons, ← List.append_assoc]
    exact this
theorem spec_sha_l0 (p : List Int) (hp : p.length ≤ 4194304) (hb : Bytes p) : ∀ (n i : Nat) (h : List Int), Words h → 64 * i + n * 64 = p.length → Ev (fun k => spec_Sha.l0 k h p ((64 * i : Nat) : Int)) (shaOut (shaBlocks n (p.drop (64 * i)) h)) := by
  intro n
  induction n with
  | zero =>
    intro i h hh hi
    refine Ev.step (fun _ => rfl) (ev_neg (by omega) ?_)
    rw [hh.1]
    exact spec_sha_l1 h hh.1 8 0 [] rfl rfl
  | succ n ih =>
    intro i h hh hi
    have e1 : wrap64 (((64 * i : Nat) : Int) + 64) = ((64 * (i + 1) : Nat) : Int) := by unfold wrap64; omega
    have e2 : (p.take (64 * (i + 1))).drop (64 * i) = (p.drop (64 * i)).take 64 := by
      rw [List.drop_take]
      congr 1
      omega
    have e3 : p.drop (64 * (i + 1)) = (p.drop (64 * i)).drop 64 := by
      rw [List.drop_drop]
      congr 1
    refine Ev.step (fun _ => rfl) ?_
    simp only [spec_Sha.l0, e1, Int.toNat_natCast, e2]
    refine ev_pos (by omega) (ev_pos (by omega) (ev_pos (by omega) (ev_pos (by omega) ?_)))
    refine ev_bind0 (x := ShaBase.blockOf h ((p.drop (64 * i)).take 64)) (by rfl) ?_
    have := ih (i + 1) _ (block_words hh (l := (p.drop (64 * i)).take 64) (by rw [List.length_take, List.length_drop]; omega)) (by omega)
    rw [e3] at this
    exact this
theorem spec_sha (l : List Int) (hl : l.length ≤ 4194000) (hb : Bytes l) : Ev (fun k => spec_Sha.f k l) (sha l) := by
  have hn := shaPad_length l
  have hm := shaPad_mod l
  unfold spec_Sha.f
  refine ev_bind0 rfl (Ev.bind (spec_shaPad l (by omega)) ?_)
  have := spec_sha_l0 (shaPad l) (by omega) (shaPad_bytes l hb) ((shaPad l).length / 64) 0 shaInit shaInit_words (by omega)
  exact this

/-! ### spec_MacKey -/
theorem spec_macKey_l0 : ∀ (d : Nat) (x : List Int), x.length + d = 64 → Ev (fun k => spec_MacKey.l0 k x) (x ++ List.replicate d 0) := by
  intro d
  induction d with
  | zero =>
    intro x hx
    exact Ev.step (fun _ => rfl) (ev_neg (by omega) (ev_some (by simp)))
  | succ d ih =>
    intro x hx
    refine Ev.step (fun _ => rfl) (ev_pos (by omega) (ev_pos (by omega) ?_))
    have := ih (x ++ [0]) (by simp; omega)
    simpa [List.replicate_succ] using this
theorem spec_macKey_j0 (x : List Int) (hx : x.length ≤ 64) : Ev (fun k => spec_MacKey.j0 k x) (ShaBase.fill64 x) := by
  rw [fill64_small hx]
  exact Ev.step (fun _ => rfl) (spec_macKey_l0 (64 - x.length) x (by omega))
theorem spec_macKey (l : List Int) (hl : l.length ≤ 4190000) (hb : Bytes l) : Ev (fun k => spec_MacKey.f k l) (macKey l) := by
  unfold spec_MacKey.f macKey
  have hc : spec_l01Copy.f l = some l := by
    unfold spec_l01Copy.f
    simp only [Option.bind_some, List.nil_append, List.length_nil, Nat.zero_add]
    rw [if_pos (by omega)]
  refine ev_bind0 hc ?_
  by_cases h : (l.length : Int) > 64
  · rw [if_pos (show 64 < l.length by omega)]
    exact ev_pos h (Ev.bind (spec_sha l (by omega) hb) (spec_macKey_j0 _ (by rw [sha_length]; omega)))
  · rw [if_neg (show ¬ 64 < l.length by omega)]
    exact ev_neg h (spec_macKey_j0 _ (by omega))

/-! ### spec_Mac -/
theorem spec_mac_l0 (b l : List Int) (hl : l.length ≤ 2000000) (hb : b.length ≤ 2000000) (gb : Bytes b) : ∀ (d i : Nat), i + d = l.length → Ev (fun k => spec_Mac.l0 k b (xorl 54 (l.take i)) (xorl 92 (l.take i)) l (l.length : Int) (i : Int)) (sha (xorl 92 l ++ sha (xorl 54 l ++ b))) := by
  intro d
  induction d with
  | zero =>
    intro i hi
    have x1 : (xorl 92 l).length ≤ 2000000 := by rw [xorl_length]; omega
    have x2 : (xorl 54 l).length ≤ 2000000 := by rw [xorl_length]; omega
    rw [List.take_of_length_le (by omega)]
    refine Ev.step (fun _ => rfl) (ev_neg (by omega) (ev_pos (by omega) ?_))
    refine Ev.bind (spec_sha _ (by rw [List.length_append]; omega) ((xorl_bytes _ _).app gb)) (ev_pos (by rw [sha_length]; omega) ?_)
    exact Ev.bind (spec_sha _ (by rw [List.length_append, sha_length]; omega) ((xorl_bytes _ _).app (sha_bytes _))) (Ev.now _)
  | succ d ih =>
    intro i hi
    have h1 : (xorl 54 (l.take i)).length ≤ 2000000 := by rw [xorl_length, List.length_take]; omega
    have h2 : (xorl 92 (l.take i)).length ≤ 2000000 := by rw [xorl_length, List.length_take]; omega
    refine Ev.step (fun _ => rfl) (ev_pos (by omega) (ev_pos (by omega) (ev_pos (by omega) (ev_pos (by omega) (ev_pos (by omega) ?_)))))
    rw [wrap_succ (by omega), rd_at (show i < l.length by omega)]
    have := ih (i + 1) (by omega)
    simp only [List.take_succ_eq_append_getElem (show i < l.length by omega), xorl, List.map_append, List.map_cons, List.map_nil] at this
    simpa only [xorl] using this
theorem spec_mac (a b : List Int) (ha : a.length ≤ 2000000) (hb : b.length ≤ 2000000) (ga : Bytes a) (gb : Bytes b) : Ev (fun k => spec_Mac.f k a b) (mac a b) := by
  unfold spec_Mac.f mac
  have h0 := macKey_length a
  exact Ev.bind (spec_macKey a (by omega) ga) (spec_mac_l0 b (macKey a) (by omega) hb gb (macKey a).length 0 (by omega))

/-! ### spec_MacOk -/
theorem spec_macOk (a b c : List Int) (ha : a.length ≤ 2000000) (hb : b.length ≤ 2000000) (ga : Bytes a) (gb : Bytes b) : Ev (fun k => spec_MacOk.f k a b c) ((strOfNums c).toList == (strOfNums (mac a b)).toList) := by
  unfold spec_MacOk.f
  refine Ev.bind (spec_mac a b ha hb ga gb) (ev_bind0 rfl (ev_some ?_))
  rw [Bool.eq_iff_iff]
  rw [beq_iff_eq, beq_iff_eq]
  exact eq_comm

/-! ### impl_ShaPad -/
theorem impl_shaPad_l1 (l : List Int) (hl : l.length ≤ 4194304) : ∀ (j : Nat) (acc : List Int), j ≤ 8 → acc.length + j ≤ 140737488355000 → Ev (fun k => impl_ShaPad.l1 k l acc ((j : Int) - 1)) (acc ++ beB (8 * l.length) j) := by
  intro j
  induction j with
  | zero =>
    intro acc hj ha
    exact Ev.step (fun _ => rfl) (ev_neg (by omega) (ev_some (by simp [beB])))
  | succ j ih =>
    intro acc hj ha
    rw [show ((j + 1 : Nat) : Int) - 1 = (j : Int) by omega]
    refine Ev.step (fun _ => rfl) (ev_pos (by omega) (ev_pos (by rw [wrap_in (by omega) (by omega)]; omega) (ev_pos (by omega) ?_)))
    rw [wrap_in (n := 8 * (j : Int)) (by omega) (by omega), wrap_in (n := 8 * (l.length : Int)) (by omega) (by omega), shr_i64 _ _ (by omega) (by omega), show (8 * (j : Int)).toNat = 8 * j by omega, wrap_in (n := (j : Int) - 1) (by omega) (by omega)]
    have e : 8 * (l.length : Int) / 2 ^ (8 * j) % 256 = ((8 * l.length / 256 ^ j % 256 : Nat) : Int) := by
      rw [← pow256]
      simp
    rw [e]
    have := ih (acc ++ [((8 * l.length / 256 ^ j % 256 : Nat) : Int)]) (by omega) (by simp; omega)
    simpa [beB] using this
theorem impl_shaPad_l0 (l : List Int) (hl : l.length ≤ 4194304) : ∀ (d : Nat) (acc : List Int), (acc.length + d) % 64 = 56 → d < 64 → acc.length + d ≤ 140737488354000 → Ev (fun k => impl_ShaPad.l0 k l acc) (acc ++ List.replicate d 0 ++ beB (8 * l.length) 8) := by
  intro d
  induction d with
  | zero =>
    intro acc h0 h1 ha
    refine Ev.step (fun _ => rfl) (ev_pos (by omega) ?_)
    have := impl_shaPad_l1 l hl 8 acc (by omega) (by omega)
    simpa using this
  | succ d ih =>
    intro acc h0 h1 ha
    refine Ev.step (fun _ => rfl) (ev_neg (by omega) (ev_pos (by omega) ?_))
    have hl1 : (acc ++ [0]).length = acc.length + 1 := by simp
    have := ih (acc ++ [0]) (by rw [hl1, ← h0]; congr 1; omega) (by omega) (by rw [hl1]; omega)
    simpa [List.replicate_succ] using this
theorem impl_shaPad (l : List Int) (hl : l.length ≤ 4194304) : Ev (fun k => impl_ShaPad.f k l) (shaPad l) := by
  unfold impl_ShaPad.f
  have hc : impl_copyBytes.f l = some l := by
    unfold impl_copyBytes.f
    simp only [Option.bind_some, List.nil_append, List.length_nil, Nat.zero_add]
    rw [if_pos (by omega)]
  refine ev_bind0 hc (ev_pos (by omega) ?_)
  exact impl_shaPad_l0 l hl (missing l.length) (l ++ [128]) (by simp only [missing, List.length_append, List.length_cons, List.length_nil]; omega) (by unfold missing; omega) (by rw [List.length_append]; unfold missing; simp only [List.length_cons, List.length_nil]; omega)

/-! ### impl_Sha -/
theorem impl_sha_l1 (h : List Int) (hh : h.length = 8) : ∀ (d i : Nat) (acc : List Int), i + d = 8 → acc.length = 4 * i → Ev (fun k => impl_Sha.l1 k acc h 8 (i : Int)) (acc ++ shaOut (h.drop i)) := by
  intro d
  induction d with
  | zero =>
    intro i acc hi ha
    refine Ev.step (fun _ => rfl) (ev_neg (by omega) (ev_some ?_))
    rw [List.drop_of_length_le (by omega)]
    simp [shaOut]
  | succ d ih =>
    intro i acc hi ha
    refine Ev.step (fun _ => rfl) (ev_pos (by omega) (ev_pos (by omega) (ev_pos (by omega) (ev_bind0 rfl (ev_pos (by simp; omega) ?_)))))
    rw [wrap_succ (by omega)]
    have := ih (i + 1) (acc ++ word4 (rd h (i : Int))) (by omega) (by simp [word4]; omega)
    rw [rd_at (show i < h.length by omega)] at this ⊢
    rw [List.drop_eq_getElem_cons (show i < h.length by omega), shaOut_cons, ← List.append_assoc]
    exact this
theorem impl_sha_l0 (p : List Int) (hp : p.length ≤ 4194304) (hb : Bytes p) : ∀ (n i : Nat) (h : List Int), Words h → 64 * i + n * 64 = p.length → Ev (fun k => impl_Sha.l0 k h p ((64 * i : Nat) : Int)) (shaOut (shaBlocks n (p.drop (64 * i)) h)) := by
  intro n
  induction n with
  | zero =>
    intro i h hh hi
    refine Ev.step (fun _ => rfl) (ev_neg (by omega) ?_)
    rw [hh.1]
    exact impl_sha_l1 h hh.1 8 0 [] rfl rfl
  | succ n ih =>
    intro i h hh hi
    have e1 : wrap64 (((64 * i : Nat) : Int) + 64) = ((64 * (i + 1) : Nat) : Int) := by unfold wrap64; omega
    have e2 : (p.take (64 * (i + 1))).drop (64 * i) = (p.drop (64 * i)).take 64 := by
      rw [List.drop_take]
      congr 1
      omega
    have e3 : p.drop (64 * (i + 1)) = (p.drop (64 * i)).drop 64 := by
      rw [List.drop_drop]
      congr 1
    refine Ev.step (fun _ => rfl) ?_
    simp only [impl_Sha.l0, e1, Int.toNat_natCast, e2]
    refine ev_pos (by omega) (ev_pos (by omega) (ev_pos (by omega) (ev_pos (by omega) ?_)))
    refine ev_bind0 (x := ShaBase.blockOf h ((p.drop (64 * i)).take 64)) (by unfold impl_ShaBlock.f; exact if_pos (List.all_eq_true.2 (fun x hx => by have := hb x (List.mem_of_mem_drop (List.mem_of_mem_take hx)); simp [this]))) ?_
    have := ih (i + 1) _ (block_words hh (l := (p.drop (64 * i)).take 64) (by rw [List.length_take, List.length_drop]; omega)) (by omega)
    rw [e3] at this
    exact this
theorem impl_sha (l : List Int) (hl : l.length ≤ 4194000) (hb : Bytes l) : Ev (fun k => impl_Sha.f k l) (sha l) := by
  have hn := shaPad_length l
  have hm := shaPad_mod l
  unfold impl_Sha.f
  refine ev_bind0 rfl (Ev.bind (impl_shaPad l (by omega)) ?_)
  have := impl_sha_l0 (shaPad l) (by omega) (shaPad_bytes l hb) ((shaPad l).length / 64) 0 shaInit shaInit_words (by omega)
  exact this

/-! ### impl_MacKey -/
theorem impl_macKey (l : List Int) (hl : l.length ≤ 4190000) (hb : Bytes l) : Ev (fun k => impl_MacKey.f k l) (macKey l) := by
  unfold impl_MacKey.f macKey
  by_cases h : (l.length : Int) > 64
  · rw [if_pos (show 64 < l.length by omega)]
    exact ev_pos h (Ev.bind (impl_sha l (by omega) hb) (Ev.now _))
  · rw [if_neg (show ¬ 64 < l.length by omega)]
    exact ev_neg h (Ev.now _)

/-! ### impl_Mac -/
theorem impl_masked_l0 (x : Int) (l : List Int) (hl : l.length ≤ 4190000) : ∀ (d i : Nat), i + d = l.length → Ev (fun k => impl_masked.l0 k x (xorl x (l.take i)) l (l.length : Int) (i : Int)) (xorl x l) := by
  intro d
  induction d with
  | zero =>
    intro i hi
    refine Ev.step (fun _ => rfl) (ev_neg (by omega) (ev_some ?_))
    rw [List.take_of_length_le (by omega)]
  | succ d ih =>
    intro i hi
    have hlen : (xorl x (l.take i)).length ≤ 4190000 := by rw [xorl_length, List.length_take]; omega
    refine Ev.step (fun _ => rfl) (ev_pos (by omega) (ev_pos (by omega) (ev_pos (by omega) (ev_pos (by omega) ?_))))
    rw [wrap_succ (by omega), rd_at (show i < l.length by omega)]
    have := ih (i + 1) (by omega)
    rw [List.take_succ_eq_append_getElem (show i < l.length by omega), xorl, List.map_append] at this
    exact this
theorem impl_masked_ev (x : Int) (l : List Int) (hl : l.length ≤ 4190000) : Ev (fun k => impl_masked.f k l x) (xorl x l) := by
  unfold impl_masked.f
  exact impl_masked_l0 x l hl l.length 0 (by omega)
theorem impl_mac (a b : List Int) (ha : a.length ≤ 2000000) (hb : b.length ≤ 2000000) (ga : Bytes a) (gb : Bytes b) : Ev (fun k => impl_Mac.f k a b) (mac a b) := by
  unfold impl_Mac.f mac
  have h0 := macKey_length a
  have x1 : (xorl 92 (macKey a)).length = 64 := by rw [xorl_length, h0]
  have x2 : (xorl 54 (macKey a)).length = 64 := by rw [xorl_length, h0]
  refine Ev.bind (impl_macKey a (by omega) ga) (Ev.bind (impl_masked_ev 92 _ (by omega)) (Ev.bind (impl_masked_ev 54 _ (by omega)) (ev_pos (by omega) ?_)))
  refine Ev.bind (impl_sha _ (by rw [List.length_append]; omega) ((xorl_bytes _ _).app gb)) (ev_pos (by rw [x1, sha_length]; omega) ?_)
  exact Ev.bind (impl_sha _ (by rw [List.length_append, x1, sha_length]; omega) ((xorl_bytes _ _).app (sha_bytes _))) (Ev.now _)

/-! ### impl_MacOk -/
theorem impl_macOk (a b c : List Int) (ha : a.length ≤ 2000000) (hb : b.length ≤ 2000000) (ga : Bytes a) (gb : Bytes b) : Ev (fun k => impl_MacOk.f k a b c) ((strOfNums c).toList == (strOfNums (mac a b)).toList) := by
  unfold impl_MacOk.f
  exact Ev.bind (impl_mac a b ha hb ga gb) (ev_bind0 rfl (Ev.now _))

attribute [local congr] bind_lazy ite_lazy
theorem FnExactMacOk : laws_FnExactMacOk.Pure := by
  intro a b c _ _ hw_a _ _ hw_b _ _ hw_c
  have hb_a := bytes_of_wf hw_a
  have hb_b := bytes_of_wf hw_b
  by_cases g_a : (a.length : Int) > 1048576
  · exact ⟨0, by simp only [laws_FnExactMacOk.f, if_pos g_a]⟩
  by_cases g_b : (b.length : Int) > 1048576
  · exact ⟨0, by simp only [laws_FnExactMacOk.f, if_neg g_a, if_pos g_b]⟩
  by_cases g_c : (c.length : Int) > 1048576
  · exact ⟨0, by simp only [laws_FnExactMacOk.f, if_neg g_a, if_neg g_b, if_pos g_c]⟩
  have ta := toByteS_ev a (by omega)
  have qa := eqByteS_same a (by omega)
  have tb := toByteS_ev b (by omega)
  have qb := eqByteS_same b (by omega)
  have tc := toByteS_ev c (by omega)
  have qc := eqByteS_same c (by omega)
  have es := spec_macOk a b c (by omega) (by omega) hb_a hb_b
  have ei := impl_macOk a b c (by omega) (by omega) hb_a hb_b
  refine Ev.rounds (g := fun k => laws_FnExactMacOk.f k a b c) (r := true) ?_
  unfold laws_FnExactMacOk.f
  exact ev_neg g_a (ev_neg g_b (ev_neg g_c (Ev.bind ta (Ev.bind tb (Ev.bind tc (Ev.bind es (Ev.bind ta (Ev.bind tb (Ev.bind tc (Ev.bind ei (ev_neg (by simp) (Ev.bind ta (Ev.bind qa (ev_pos rfl (Ev.bind tb (Ev.bind qb (ev_pos rfl (Ev.bind tc (Ev.bind qc (ev_pos rfl (Ev.now _)))))))))))))))))))))

end Go.Proofs.Ytjfhbmbiegccnaa.Pure
