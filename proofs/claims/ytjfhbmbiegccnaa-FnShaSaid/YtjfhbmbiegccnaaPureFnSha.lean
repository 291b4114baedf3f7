/- The hash is computed block by block over the padded input, and a long key is replaced by its hash: the law's function answers true for every argument. Conditions: those of the printed statement alone. -/
import Derived.Test.YtjfhbmbiegccnaaQFnShax3
import Derived.Test.YtjfhbmbiegccnaaLib
import Derived.Test.YtjfhbmbiegccnaaLibNum
import Derived.Test.YtjfhbmbiegccnaaLibSha
import Derived.Test.YtjfhbmbiegccnaaLibHash
import Derived.Test.YtjfhbmbiegccnaaLibMac
import Derived.Test.YtjfhbmbiegccnaaLibDraw
set_option linter.unusedVariables false
set_option linter.unusedSimpArgs false
set_option maxRecDepth 4000
namespace Go.Proofs.Ytjfhbmbiegccnaa.Pure
open Go.RowKit Go.Proofs.Ytjfhbmbiegccnaa.QFnSha Go.Proofs.YtjfhbmbiegccnaaW.PrintWords Go.Proofs.YtjfhbmbiegccnaaW.PrintLast Go.Proofs.YtjfhbmbiegccnaaW.PrintMore Go.Proofs.Ytjfhbmbiegccnaa.Lib

/-! ### impl_ShaPad -/
theorem impl_shaPad_l1 (l : List Int) (hl : l.length ≤ 4194304) : ∀ (j : Nat) (acc : List Int), j ≤ 8 → acc.length + j ≤ 140737488355000 → Ev (fun k => impl_ShaPad.l1 k l acc ((j : Int) - 1)) (acc ++ beB (8 * l.length) j) := by
  intro j
  induction j with
  | zero =>
    intro acc hj ha
    exact Ev.step (fun _ => rfl) (ev_neg (by omega) (ev_some (by simp [beB])))
  | succ j ih =>
    intro acc hj ha
    rw [show ((j + 1 : Nat) : Int) - 1 = (j : Int) by omega]
    refine Ev.step (fun _ => rfl) (ev_pos (by omega) (ev_pos (by rw [wrap_in (by omega) (by omega)]; omega) (ev_pos (by omega) ?_)))
    rw [wrap_in (n := 8 * (j : Int)) (by omega) (by omega), wrap_in (n := 8 * (l.length : Int)) (by omega) (by omega), shr_i64 _ _ (by omega) (by omega), show (8 * (j : Int)).toNat = 8 * j by omega, wrap_in (n := (j : Int) - 1) (by omega) (by omega)]
    have e : 8 * (l.length : Int) / 2 ^ (8 * j) % 256 = ((8 * l.length / 256 ^ j % 256 : Nat) : Int) := by
      rw [← pow256]
      simp
    rw [e]
    have := ih (acc ++ [((8 * l.length / 256 ^ j % 256 : Nat) : Int)]) (by omega) (by simp; omega)
    simpa [beB] using this
theorem impl_shaPad_l0 (l : List Int) (hl : l.length ≤ 4194304) : ∀ (d : Nat) (acc : List Int), (acc.length + d) % 64 = 56 → d < 64 → acc.length + d ≤ 140737488354000 → Ev (fun k => impl_ShaPad.l0 k l acc) (acc ++ List.replicate d 0 ++ beB (8 * l.length) 8) := by
  intro d
  induction d with
  | zero =>
    intro acc h0 h1 ha
    refine Ev.step (fun _ => rfl) (ev_pos (by omega) ?_)
    have := impl_shaPad_l1 l hl 8 acc (by omega) (by omega)
    simpa using this
  | succ d ih =>
    intro acc h0 h1 ha
    refine Ev.step (fun _ => rfl) (ev_neg (by omega) (ev_pos (by omega) ?_))
    have hl1 : (acc ++ [0]).length = acc.length + 1 := by simp
    have := ih (acc ++ [0]) (by rw [hl1, ← h0]; congr 1; omega) (by omega) (by rw [hl1]; omega)
    simpa [List.replicate_succ] using this
theorem impl_shaPad (l : List Int) (hl : l.length ≤ 4194304) : Ev (fun k => impl_ShaPad.f k l) (shaPad l) := by
  unfold impl_ShaPad.f
  have hc : impl_copyBytes.f l = some l := by
    unfold impl_copyBytes.f
    simp only [Option.bind_some, List.nil_append, List.length_nil, Nat.zero_add]
    rw [if_pos (by omega)]
  refine ev_bind0 hc (ev_pos (by omega) ?_)
  exact impl_shaPad_l0 l hl (missing l.length) (l ++ [128]) (by simp only [missing, List.length_append, List.length_cons, List.length_nil]; omega) (by unfold missing; omega) (by rw [List.length_append]; unfold missing; simp only [List.length_cons, List.length_nil]; omega)

/-! ### impl_Sha -/
theorem impl_sha_l1 (h : List Int) (hh : h.length = 8) : ∀ (d i : Nat) (acc : List Int), i + d = 8 → acc.length = 4 * i → Ev (fun k => impl_Sha.l1 k acc h 8 (i : Int)) (acc ++ shaOut (h.drop i)) := by
  intro d
  induction d with
  | zero =>
    intro i acc hi ha
    refine Ev.step (fun _ => rfl) (ev_neg (by omega) (ev_some ?_))
    rw [List.drop_of_length_le (by omega)]
    simp [shaOut]
  | succ d ih =>
    intro i acc hi ha
    refine Ev.step (fun _ => rfl) (ev_pos (by omega) (ev_pos (by omega) (ev_pos (by omega) (ev_bind0 rfl (ev_pos (by simp; omega) ?_)))))
    rw [wrap_succ (by omega)]
    have := ih (i + 1) (acc ++ word4 (rd h (i : Int))) (by omega) (by simp [word4]; omega)
    rw [rd_at (show i < h.length by omega)] at this ⊢
    rw [List.drop_eq_getElem_cons (show i < h.length by omega), shaOut_cons, ← List.append_assoc]
    exact this
theorem impl_sha_l0 (p : List Int) (hp : p.length ≤ 4194304) (hb : Bytes p) : ∀ (n i : Nat) (h : List Int), Words h → 64 * i + n * 64 = p.length → Ev (fun k => impl_Sha.l0 k h p ((64 * i : Nat) : Int)) (shaOut (shaBlocks n (p.drop (64 * i)) h)) := by
  intro n
  induction n with
  | zero =>
    intro i h hh hi
    refine Ev.step (fun _ => rfl) (ev_neg (by omega) ?_)
    rw [hh.1]
    exact impl_sha_l1 h hh.1 8 0 [] rfl rfl
  | succ n ih =>
    intro i h hh hi
    have e1 : wrap64 (((64 * i : Nat) : Int) + 64) = ((64 * (i + 1) : Nat) : Int) := by unfold wrap64; omega
    have e2 : (p.take (64 * (i + 1))).drop (64 * i) = (p.drop (64 * i)).take 64 := by
      rw [List.drop_take]
      congr 1
      omega
    have e3 : p.drop (64 * (i + 1)) = (p.drop (64 * i)).drop 64 := by
      rw [List.drop_drop]
      congr 1
    refine Ev.step (fun _ => rfl) ?_
    simp only [impl_Sha.l0, e1, Int.toNat_natCast, e2]
    refine ev_pos (by omega) (ev_pos (by omega) (ev_pos (by omega) (ev_pos (by omega) ?_)))
    refine ev_bind0 (x := ShaBase.blockOf h ((p.drop (64 * i)).take 64)) (by unfold impl_ShaBlock.f; exact if_pos (List.all_eq_true.2 (fun x hx => by have := hb x (List.mem_of_mem_drop (List.mem_of_mem_take hx)); simp [this]))) ?_
    have := ih (i + 1) _ (block_words hh (l := (p.drop (64 * i)).take 64) (by rw [List.length_take, List.length_drop]; omega)) (by omega)
    rw [e3] at this
    exact this
theorem impl_sha (l : List Int) (hl : l.length ≤ 4194000) (hb : Bytes l) : Ev (fun k => impl_Sha.f k l) (sha l) := by
  have hn := shaPad_length l
  have hm := shaPad_mod l
  unfold impl_Sha.f
  refine ev_bind0 rfl (Ev.bind (impl_shaPad l (by omega)) ?_)
  have := impl_sha_l0 (shaPad l) (by omega) (shaPad_bytes l hb) ((shaPad l).length / 64) 0 shaInit shaInit_words (by omega)
  exact this

/-! ### impl_MacKey -/
theorem impl_macKey (l : List Int) (hl : l.length ≤ 4190000) (hb : Bytes l) : Ev (fun k => impl_MacKey.f k l) (macKey l) := by
  unfold impl_MacKey.f macKey
  by_cases h : (l.length : Int) > 64
  · rw [if_pos (show 64 < l.length by omega)]
    exact ev_pos h (Ev.bind (impl_sha l (by omega) hb) (Ev.now _))
  · rw [if_neg (show ¬ 64 < l.length by omega)]
    exact ev_neg h (Ev.now _)

/-! ### impl_Mac -/
theorem impl_masked_l0 (x : Int) (l : List Int) (hl : l.length ≤ 4190000) : ∀ (d i : Nat), i + d = l.length → Ev (fun k => impl_masked.l0 k x (xorl x (l.take i)) l (l.length : Int) (i : Int)) (xorl x l) := by
  intro d
  induction d with
  | zero =>
    intro i hi
    refine Ev.step (fun _ => rfl) (ev_neg (by omega) (ev_some ?_))
    rw [List.take_of_length_le (by omega)]
  | succ d ih =>
    intro i hi
    have hlen : (xorl x (l.take i)).length ≤ 4190000 := by rw [xorl_length, List.length_take]; omega
    refine Ev.step (fun _ => rfl) (ev_pos (by omega) (ev_pos (by omega) (ev_pos (by omega) (ev_pos (by omega) ?_))))
    rw [wrap_succ (by omega), rd_at (show i < l.length by omega)]
    have := ih (i + 1) (by omega)
    rw [List.take_succ_eq_append_getElem (show i < l.length by omega), xorl, List.map_append] at this
    exact this
theorem impl_masked_ev (x : Int) (l : List Int) (hl : l.length ≤ 4190000) : Ev (fun k => impl_masked.f k l x) (xorl x l) := by
  unfold impl_masked.f
  exact impl_masked_l0 x l hl l.length 0 (by omega)
theorem impl_mac (a b : List Int) (ha : a.length ≤ 2000000) (hb : b.length ≤ 2000000) (ga : Bytes a) (gb : Bytes b) : Ev (fun k => impl_Mac.f k a b) (mac a b) := by
  unfold impl_Mac.f mac
  have h0 := macKey_length a
  have x1 : (xorl 92 (macKey a)).length = 64 := by rw [xorl_length, h0]
  have x2 : (xorl 54 (macKey a)).length = 64 := by rw [xorl_length, h0]
  refine Ev.bind (impl_macKey a (by omega) ga) (Ev.bind (impl_masked_ev 92 _ (by omega)) (Ev.bind (impl_masked_ev 54 _ (by omega)) (ev_pos (by omega) ?_)))
  refine Ev.bind (impl_sha _ (by rw [List.length_append]; omega) ((xorl_bytes _ _).app gb)) (ev_pos (by rw [x1, sha_length]; omega) ?_)
  exact Ev.bind (impl_sha _ (by rw [List.length_append, x1, sha_length]; omega) ((xorl_bytes _ _).app (sha_bytes _))) (Ev.now _)

/-! ### impl_MacOk -/
theorem impl_macOk (a b c : List Int) (ha : a.length ≤ 2000000) (hb : b.length ≤ 2000000) (ga : Bytes a) (gb : Bytes b) : Ev (fun k => impl_MacOk.f k a b c) ((strOfNums c).toList == (strOfNums (mac a b)).toList) := by
  unfold impl_MacOk.f
  exact Ev.bind (impl_mac a b ha hb ga gb) (ev_bind0 rfl (Ev.now _))

/-! ### spec_MakeBytes -/
theorem l01New_ev (l : List Int) (hl : l.length ≤ 1048576) : ∀ (d i : Nat) (h : Int), l.length - i = d → i ≤ l.length → ∃ h', Ev (fun k => spec_l01New.l0 k l h (i : Int)) (l, 0, h') := by
  intro d
  induction d with
  | zero =>
    intro i h hd hi
    exact ⟨h, Ev.step (fun _ => rfl) (ev_neg (by omega) (Ev.now _))⟩
  | succ d ih =>
    intro i h hd hi
    by_cases h4 : (i : Int) < 4000
    · obtain ⟨h', e⟩ := ih (i + 1) (Go.bits .and .i64 (wrap64 ((wrap64 ((wrap64 (h * 37)) + (wrap64 (rd l i)))) + 7)) 1073741823) (by omega) (by omega)
      refine ⟨h', Ev.step (fun _ => rfl) (ev_pos (by omega) (ev_pos h4 (ev_pos (by omega) ?_)))⟩
      rw [wrap_succ (by omega)]
      exact e
    · exact ⟨h, Ev.step (fun _ => rfl) (ev_pos (by omega) (ev_neg h4 (Ev.now _)))⟩
theorem l01New_some (l : List Int) (hl : l.length ≤ 1048576) : ∃ h, Ev (fun k => spec_l01New.f k l) (l, 0, h) := l01New_ev l hl _ 0 _ rfl (by omega)
/-- A cursor's byte: a byte; the cursor stays in its place or goes on. -/
theorem l01Byte_some (l : List Int) (i h : Int) (hi : 0 ≤ i) (hl : l.length ≤ 1048576) (h1 : i ≤ l.length) : ∃ b i' h', spec_l01Byte.f l i h = some (b, i', h') ∧ 0 ≤ b ∧ b ≤ 255 ∧ 0 ≤ i' ∧ i' ≤ l.length := by
  unfold spec_l01Byte.f
  by_cases h0 : i < (l.length : Int)
  · rw [if_pos h0, if_pos hi, wrap_in (n := i + 1) (by omega) (by omega)]
    exact ⟨_, _, _, rfl, (and255 _).1, (and255 _).2, by omega, by omega⟩
  · rw [if_neg h0]
    exact ⟨_, _, _, rfl, (and255 _).1, (and255 _).2, hi, h1⟩
theorem l01Below_some (l : List Int) (i h n : Int) (hi : 0 ≤ i) (hl : l.length ≤ 1048576) (h1 : i ≤ l.length) : ∃ b i' h', spec_l01Below.f l i h n = some (b, i', h') ∧ 0 ≤ b ∧ (0 < n → b < n) ∧ 0 ≤ i' ∧ i' ≤ l.length := by
  unfold spec_l01Below.f
  by_cases h0 : n ≤ 0
  · rw [if_pos h0]
    exact ⟨_, _, _, rfl, by omega, by omega, hi, h1⟩
  rw [if_neg h0]
  obtain ⟨b, i1, g1, e1, b0, b1, c0, c1⟩ := l01Byte_some l i h hi hl h1
  by_cases h2 : n ≤ 256
  · rw [if_pos h2, e1]
    simp only [Option.bind_some]
    rw [if_neg (by omega), Int.tmod_eq_emod_of_nonneg b0]
    exact ⟨_, _, _, rfl, Int.emod_nonneg _ (by omega), fun _ => Int.emod_lt_of_pos _ (by omega), c0, c1⟩
  · rw [if_neg h2]
    obtain ⟨x, i2, g2, e2, x0, x1, d0, d1⟩ := l01Byte_some l i1 g1 c0 hl c1
    obtain ⟨y, i3, g3, e3, y0, y1, f0, f1⟩ := l01Byte_some l i2 g2 d0 hl d1
    obtain ⟨z, i4, g4, e4, z0, z1, m0, m1⟩ := l01Byte_some l i3 g3 f0 hl f1
    rw [e1]
    simp only [Option.bind_some]
    rw [e2]
    simp only [Option.bind_some]
    rw [e3]
    simp only [Option.bind_some]
    rw [e4]
    simp only [Option.bind_some]
    rw [if_neg (by omega), wrap_in (n := b * 16777216) (by omega) (by omega), wrap_in (n := x * 65536) (by omega) (by omega), wrap_in (n := y * 256) (by omega) (by omega), wrap_in (n := b * 16777216 + x * 65536) (by omega) (by omega), wrap_in (n := b * 16777216 + x * 65536 + y * 256) (by omega) (by omega), wrap_in (by omega) (by omega), Int.tmod_eq_emod_of_nonneg (by omega)]
    exact ⟨_, _, _, rfl, Int.emod_nonneg _ (by omega), fun _ => Int.emod_lt_of_pos _ (by omega), m0, m1⟩

/-! ### spec_MakeBytes2 -/
theorem l01Bytes_l0 (l : List Int) (hl : l.length ≤ 1048576) : ∀ (n : Nat) (acc : List Int) (i h : Int), n ≤ 1048576 → Bytes acc → acc.length + n ≤ 4194304 → 0 ≤ i → i ≤ l.length → ∃ r i' h', Ev (fun k => spec_l01Bytes.l0 k acc (n : Int) l i h) (r, i', h') ∧ Bytes r ∧ r.length = acc.length + n ∧ 0 ≤ i' ∧ i' ≤ l.length := by
  intro n
  induction n with
  | zero =>
    intro acc i h hn hb ha hi h1
    exact ⟨acc, i, h, Ev.step (fun _ => rfl) (ev_neg (by omega) (Ev.now _)), hb, rfl, hi, h1⟩
  | succ n ih =>
    intro acc i h hn hb ha hi h1
    obtain ⟨b, i1, g1, e1, b0, b1, c0, c1⟩ := l01Byte_some l i h hi hl h1
    obtain ⟨r, i', h', e, hr, hlen, d0, d1⟩ := ih (acc ++ [b % 256]) i1 g1 (by omega) (hb.app (Bytes.one (by omega) (by omega))) (by simp; omega) c0 c1
    refine ⟨r, i', h', Ev.step (fun _ => rfl) (ev_pos (by omega) (ev_bind0 e1 (ev_pos (by omega) ?_))), hr, ?_, d0, d1⟩
    · rw [wrap_in (by omega) (by omega), show ((n + 1 : Nat) : Int) - 1 = (n : Int) by omega]
      exact e
    · rw [hlen]
      simp
      omega
theorem l01Bytes_some (l : List Int) (i h n : Int) (hl : l.length ≤ 1048576) (h0 : 0 ≤ n) (hn : n ≤ 1000) (hi : 0 ≤ i) (h1 : i ≤ l.length) : ∃ r i' h', Ev (fun k => spec_l01Bytes.f k l i h n) (r, i', h') ∧ Bytes r ∧ r.length ≤ n ∧ 0 ≤ i' ∧ i' ≤ l.length := by
  obtain ⟨b, i1, g1, e1, b0, b1, c0, c1⟩ := l01Below_some l i h (n + 1) hi hl h1
  obtain ⟨m, rfl⟩ := Int.eq_ofNat_of_zero_le b0
  have bm := b1 (by omega)
  obtain ⟨r, i', h', e, hr, hlen, d0, d1⟩ := l01Bytes_l0 l hl m [] i1 g1 (by omega) Bytes.nil (by simp; omega) c0 c1
  refine ⟨r, i', h', ?_, hr, by rw [hlen]; simp; omega, d0, d1⟩
  unfold spec_l01Bytes.f
  rw [wrap_in (by omega) (by omega)]
  exact ev_bind0 e1 e

/-! ### spec_MakeBytes3 -/
theorem makeBytes_some (l : List Int) (n : Int) (hl : l.length ≤ 1048576) (h0 : 0 ≤ n) (hn : n ≤ 1000) : ∃ r, Ev (fun k => spec_MakeBytes.f k l n) r ∧ Bytes r ∧ r.length ≤ n := by
  obtain ⟨h, e⟩ := l01New_some l hl
  obtain ⟨r, i', h', e2, hr, hlen, _, _⟩ := l01Bytes_some l 0 (wrap64 (h + n)) n hl h0 hn (by omega) (by omega)
  exact ⟨r, Ev.bind e (Ev.bind e2 (Ev.now _)), hr, hlen⟩

attribute [local congr] bind_lazy ite_lazy
theorem sameBytes_refl (a : List Int) : impl_SameBytes.f a a = some true := by
  unfold impl_SameBytes.f
  simp
theorem mac_long (k b : List Int) (h : 64 < k.length) : mac (sha k) b = mac k b := by
  have e : macKey (sha k) = macKey k := by
    unfold macKey
    rw [if_pos h, if_neg (by rw [sha_length]; omega)]
  unfold mac
  rw [e]
theorem fnSha_end (a : List Int) (ha : a.length ≤ 1000) (gb : Bytes a) (h : List Int) (hh : h.length = 8) (he : shaOut h = sha a) : ∀ (d i : Nat) (acc : List Int), i + d = 8 → acc.length = 4 * i → acc ++ shaOut (h.drop i) = sha a → Ev (fun k => laws_FnSha.l1 k a (shaPad a) acc h 8 (i : Int)) true := by
  intro d
  induction d with
  | zero =>
    intro i acc hi hl hs
    rw [List.drop_of_length_le (by omega)] at hs
    have hs : acc = sha a := by simpa [shaOut] using hs
    have hn := shaPad_length a
    have hm := shaPad_mod a
    have hq := shaPad_more a
    subst hs
    have bz : Bytes (List.replicate 65 0 ++ a) := (bytes_zeros 65).app gb
    have lz : (List.replicate 65 (0 : Int) ++ a).length = 65 + a.length := by rw [List.length_append, List.length_replicate]
    refine Ev.step (fun _ => rfl) (ev_neg (by omega) (ev_pos (by decide) (ev_bind0 rfl (ev_pos (by rw [List.length_replicate]; omega) (ev_bind0 rfl ?_)))))
    generalize List.replicate 65 (0 : Int) ++ a = z at bz lz ⊢
    have ht : (shaPad a).take ((a.length : Int) : Int).toNat = a := by rw [Int.toNat_natCast]; exact shaPad_take a
    refine ev_pos (by omega) (ev_pos (by rw [wrap_in (by omega) (by omega)]; omega) (ev_pos (by omega) (ev_pos (by omega) (ev_bind0 (x := true) (by rw [ht]; exact sameBytes_refl a) (ev_pos rfl ?_)))))
    refine Ev.bind (impl_sha a (by omega) gb) (ev_bind0 (sameBytes_refl _) (ev_pos rfl ?_))
    refine Ev.bind (impl_mac z a (by omega) (by omega) bz gb) (Ev.bind (impl_sha z (by omega) bz) (Ev.bind (impl_mac (sha z) a (by rw [sha_length]; omega) (by omega) (sha_bytes _) gb) (ev_bind0 (x := true) (by rw [mac_long z a (by omega)]; exact sameBytes_refl _) (ev_pos rfl ?_))))
    refine Ev.bind (impl_mac a z (by omega) (by omega) gb bz) (Ev.bind (ev_eq (by simp) (impl_macOk a z (mac a z) (by omega) (by omega) gb bz)) (ev_pos rfl (Ev.bind (impl_macKey z (by omega) bz) (ev_some ?_))))
    rw [macKey_length]
    rfl
  | succ d ih =>
    intro i acc hi ha2 hs
    refine Ev.step (fun _ => rfl) (ev_pos (by omega) (ev_pos (by omega) (ev_pos (by omega) (ev_bind0 rfl (ev_pos (by simp; omega) ?_)))))
    rw [wrap_succ (by omega)]
    rw [List.drop_eq_getElem_cons (show i < h.length by omega), shaOut_cons, ← List.append_assoc] at hs
    have := ih (i + 1) (acc ++ word4 (rd h (i : Int))) (by omega) (by simp [word4]; omega) (by rw [rd_at (show i < h.length by omega)]; exact hs)
    exact this
theorem fnSha_l0 (a : List Int) (ha : a.length ≤ 1000) (gb : Bytes a) : ∀ (n i : Nat) (h : List Int), Words h → 64 * i + n * 64 = (shaPad a).length → shaOut (shaBlocks n ((shaPad a).drop (64 * i)) h) = sha a → Ev (fun k => laws_FnSha.l0 k a (shaPad a) h ((64 * i : Nat) : Int)) true := by
  have hn := shaPad_length a
  have hb := shaPad_bytes a gb
  intro n
  induction n with
  | zero =>
    intro i h hh hi hs
    refine Ev.step (fun _ => rfl) (ev_neg (by rw [wrap_in (by omega) (by omega)]; omega) ?_)
    rw [hh.1]
    exact fnSha_end a ha gb h hh.1 hs 8 0 [] rfl rfl hs
  | succ n ih =>
    intro i h hh hi hs
    have e1 : wrap64 (((64 * i : Nat) : Int) + 64) = ((64 * (i + 1) : Nat) : Int) := by unfold wrap64; omega
    have e2 : ((shaPad a).take (64 * (i + 1))).drop (64 * i) = ((shaPad a).drop (64 * i)).take 64 := by
      rw [List.drop_take]
      congr 1
      omega
    have e3 : (shaPad a).drop (64 * (i + 1)) = ((shaPad a).drop (64 * i)).drop 64 := by
      rw [List.drop_drop]
      congr 1
    refine Ev.step (fun _ => rfl) ?_
    simp only [laws_FnSha.l0, e1, Int.toNat_natCast, e2]
    refine ev_pos (by omega) (ev_pos (by omega) (ev_pos (by omega) ?_))
    refine ev_bind0 (x := ShaBase.blockOf h (((shaPad a).drop (64 * i)).take 64)) (by unfold impl_ShaBlock.f; exact if_pos (List.all_eq_true.2 (fun x hx => by have := hb x (List.mem_of_mem_drop (List.mem_of_mem_take hx)); simp [this]))) ?_
    exact ih (i + 1) _ (block_words hh (l := ((shaPad a).drop (64 * i)).take 64) (by rw [List.length_take, List.length_drop]; omega)) (by omega) (by rw [e3]; exact hs)
theorem FnSha : laws_FnSha.Pure := by
  intro l _ _ _
  by_cases g : (l.length : Int) > 1048576
  · exact ⟨0, by simp only [laws_FnSha.f, if_pos g]⟩
  obtain ⟨a, e1, ha, hal⟩ := makeBytes_some l 60 (by omega) (by omega) (by omega)
  obtain ⟨b, e2, hb, hbl⟩ := makeBytes_some l 13 (by omega) (by omega) (by omega)
  have hlen : (a ++ b).length = a.length + b.length := by simp
  have hm := shaPad_mod (a ++ b)
  refine Ev.rounds (g := fun k => laws_FnSha.f k l) (r := true) ?_
  unfold laws_FnSha.f
  refine ev_neg g (Ev.bind e1 (Ev.bind e2 (ev_pos (by omega) (ev_bind0 rfl (Ev.bind (impl_shaPad (a ++ b) (by omega)) (ev_bind0 rfl ?_))))))
  exact fnSha_l0 (a ++ b) (by omega) (ha.app hb) ((shaPad (a ++ b)).length / 64) 0 shaInit shaInit_words (by omega) rfl

end Go.Proofs.Ytjfhbmbiegccnaa.Pure
