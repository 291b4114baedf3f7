/- The tree that is made one by one has the root of the whole one: the law's function answers true for every argument (what its calls answer, for the walk). Conditions: those of the printed statement alone. -/
import Derived.Test.YtjfhbmbiegccnaaQFnStackx7
import Derived.Test.YtjfhbmbiegccnaaLib
import Derived.Test.YtjfhbmbiegccnaaLibNum
import Derived.Test.YtjfhbmbiegccnaaLibTree
import Derived.Test.YtjfhbmbiegccnaaLibSha
import Derived.Test.YtjfhbmbiegccnaaLibHash
import Derived.Test.YtjfhbmbiegccnaaLibMac
import Derived.Test.YtjfhbmbiegccnaaLibDraw
set_option linter.unusedVariables false
set_option linter.unusedSimpArgs false
set_option maxRecDepth 4000
namespace Go.Proofs.Ytjfhbmbiegccnaa.Pure
open Go.RowKit Go.Proofs.Ytjfhbmbiegccnaa.QFnStack Go.Proofs.YtjfhbmbiegccnaaW.PrintWords Go.Proofs.YtjfhbmbiegccnaaW.PrintLast Go.Proofs.YtjfhbmbiegccnaaW.PrintMore Go.Proofs.Ytjfhbmbiegccnaa.Lib

/-! ### impl_ShaPad -/
theorem impl_shaPad_l1 (l : List Int) (hl : l.length ≤ 4194304) : ∀ (j : Nat) (acc : List Int), j ≤ 8 → acc.length + j ≤ 140737488355000 → Ev (fun k => impl_ShaPad.l1 k l acc ((j : Int) - 1)) (acc ++ beB (8 * l.length) j) := by
 intro j
 induction j with
 | zero =>
  intro acc hj ha
  exact Ev.step (fun _ => rfl) (ev_neg (by omega) (ev_some (by simp [beB])))
 | succ j ih =>
  intro acc hj ha
  rw [show ((j + 1 : Nat) : Int) - 1 = (j : Int) by omega]
  refine Ev.step (fun _ => rfl) (ev_pos (by omega) (ev_pos (by rw [wrap_in (by omega) (by omega)]; omega) (ev_pos (by omega) ?_)))
  rw [wrap_in (n := 8 * (j : Int)) (by omega) (by omega), wrap_in (n := 8 * (l.length : Int)) (by omega) (by omega), shr_i64 _ _ (by omega) (by omega), show (8 * (j : Int)).toNat = 8 * j by omega, wrap_in (n := (j : Int) - 1) (by omega) (by omega)]
  have e : 8 * (l.length : Int) / 2 ^ (8 * j) % 256 = ((8 * l.length / 256 ^ j % 256 : Nat) : Int) := by
   rw [← pow256]
   simp
  rw [e]
  have := ih (acc ++ [((8 * l.length / 256 ^ j % 256 : Nat) : Int)]) (by omega) (by simp; omega)
  simpa [beB] using this
theorem impl_shaPad_l0 (l : List Int) (hl : l.length ≤ 4194304) : ∀ (d : Nat) (acc : List Int), (acc.length + d) % 64 = 56 → d < 64 → acc.length + d ≤ 140737488354000 → Ev (fun k => impl_ShaPad.l0 k l acc) (acc ++ List.replicate d 0 ++ beB (8 * l.length) 8) := by
 intro d
 induction d with
 | zero =>
  intro acc h0 h1 ha
  refine Ev.step (fun _ => rfl) (ev_pos (by omega) ?_)
  have := impl_shaPad_l1 l hl 8 acc (by omega) (by omega)
  simpa using this
 | succ d ih =>
  intro acc h0 h1 ha
  refine Ev.step (fun _ => rfl) (ev_neg (by omega) (ev_pos (by omega) ?_))
  have hl1 : (acc ++ [0]).length = acc.length + 1 := by simp
  have := ih (acc ++ [0]) (by rw [hl1, ← h0]; congr 1; omega) (by omega) (by rw [hl1]; omega)
  simpa [List.replicate_succ] using this
theorem impl_shaPad (l : List Int) (hl : l.length ≤ 4194304) : Ev (fun k => impl_ShaPad.f k l) (shaPad l) := by
 unfold impl_ShaPad.f
 have hc : impl_copyBytes.f l = some l := by
  unfold impl_copyBytes.f
  simp only [Option.bind_some, List.nil_append, List.length_nil, Nat.zero_add]
  rw [if_pos (by omega)]
 refine ev_bind0 hc (ev_pos (by omega) ?_)
 exact impl_shaPad_l0 l hl (missing l.length) (l ++ [128]) (by simp only [missing, List.length_append, List.length_cons, List.length_nil]; omega) (by unfold missing; omega) (by rw [List.length_append]; unfold missing; simp only [List.length_cons, List.length_nil]; omega)

/-! ### impl_Sha -/
theorem impl_sha_l1 (h : List Int) (hh : h.length = 8) : ∀ (d i : Nat) (acc : List Int), i + d = 8 → acc.length = 4 * i → Ev (fun k => impl_Sha.l1 k acc h 8 (i : Int)) (acc ++ shaOut (h.drop i)) := by
 intro d
 induction d with
 | zero =>
  intro i acc hi ha
  refine Ev.step (fun _ => rfl) (ev_neg (by omega) (ev_some ?_))
  rw [List.drop_of_length_le (by omega)]
  simp [shaOut]
 | succ d ih =>
  intro i acc hi ha
  refine Ev.step (fun _ => rfl) (ev_pos (by omega) (ev_pos (by omega) (ev_pos (by omega) (ev_bind0 rfl (ev_pos (by simp; omega) ?_)))))
  rw [wrap_succ (by omega)]
  have := ih (i + 1) (acc ++ word4 (rd h (i : Int))) (by omega) (by simp [word4]; omega)
  rw [rd_at (show i < h.length by omega)] at this ⊢
  rw [List.drop_eq_getElem_cons (show i < h.length by omega), shaOut_cons, ← List.append_assoc]
  exact this
theorem impl_sha_l0 (p : List Int) (hp : p.length ≤ 4194304) (hb : Bytes p) : ∀ (n i : Nat) (h : List Int), Words h → 64 * i + n * 64 = p.length → Ev (fun k => impl_Sha.l0 k h p ((64 * i : Nat) : Int)) (shaOut (shaBlocks n (p.drop (64 * i)) h)) := by
 intro n
 induction n with
 | zero =>
  intro i h hh hi
  refine Ev.step (fun _ => rfl) (ev_neg (by omega) ?_)
  rw [hh.1]
  exact impl_sha_l1 h hh.1 8 0 [] rfl rfl
 | succ n ih =>
  intro i h hh hi
  have e1 : wrap64 (((64 * i : Nat) : Int) + 64) = ((64 * (i + 1) : Nat) : Int) := by unfold wrap64; omega
  have e2 : (p.take (64 * (i + 1))).drop (64 * i) = (p.drop (64 * i)).take 64 := by
   rw [List.drop_take]
   congr 1
   omega
  have e3 : p.drop (64 * (i + 1)) = (p.drop (64 * i)).drop 64 := by
   rw [List.drop_drop]
   congr 1
  refine Ev.step (fun _ => rfl) ?_
  simp only [impl_Sha.l0, e1, Int.toNat_natCast, e2]
  refine ev_pos (by omega) (ev_pos (by omega) (ev_pos (by omega) (ev_pos (by omega) ?_)))
  refine ev_bind0 (x := ShaBase.blockOf h ((p.drop (64 * i)).take 64)) (by unfold impl_ShaBlock.f; exact if_pos (List.all_eq_true.2 (fun x hx => by have := hb x (List.mem_of_mem_drop (List.mem_of_mem_take hx)); simp [this]))) ?_
  have := ih (i + 1) _ (block_words hh (l := (p.drop (64 * i)).take 64) (by rw [List.length_take, List.length_drop]; omega)) (by omega)
  rw [e3] at this
  exact this
theorem impl_sha (l : List Int) (hl : l.length ≤ 4194000) (hb : Bytes l) : Ev (fun k => impl_Sha.f k l) (sha l) := by
 have hn := shaPad_length l
 have hm := shaPad_mod l
 unfold impl_Sha.f
 refine ev_bind0 rfl (Ev.bind (impl_shaPad l (by omega)) ?_)
 have := impl_sha_l0 (shaPad l) (by omega) (shaPad_bytes l hb) ((shaPad l).length / 64) 0 shaInit shaInit_words (by omega)
 exact this

/-! ### impl_LeafHash -/
theorem impl_leafHash (l : List Int) (hl : l.length ≤ 4190000) (hb : Bytes l) : Ev (fun k => impl_LeafHash.f k l) (leafHash l) := by
 unfold impl_LeafHash.f
 exact ev_bind0 rfl (ev_pos (by simp; omega) (Ev.bind (impl_sha ([0] ++ l) (by simp; omega) ((Bytes.one (by omega) (by omega)).app hb)) (Ev.now _)))

/-! ### spec_MakeBytes -/
theorem l01New_ev (l : List Int) (hl : l.length ≤ 1048576) : ∀ (d i : Nat) (h : Int), l.length - i = d → i ≤ l.length → ∃ h', Ev (fun k => spec_l01New.l0 k l h (i : Int)) (l, 0, h') := by
 intro d
 induction d with
 | zero =>
  intro i h hd hi
  exact ⟨h, Ev.step (fun _ => rfl) (ev_neg (by omega) (Ev.now _))⟩
 | succ d ih =>
  intro i h hd hi
  by_cases h4 : (i : Int) < 4000
  ·
   obtain ⟨h', e⟩ := ih (i + 1) (Go.bits .and .i64 (wrap64 ((wrap64 ((wrap64 (h * 37)) + (wrap64 (rd l i)))) + 7)) 1073741823) (by omega) (by omega)
   refine ⟨h', Ev.step (fun _ => rfl) (ev_pos (by omega) (ev_pos h4 (ev_pos (by omega) ?_)))⟩
   rw [wrap_succ (by omega)]
   exact e
  ·
   exact ⟨h, Ev.step (fun _ => rfl) (ev_pos (by omega) (ev_neg h4 (Ev.now _)))⟩
theorem l01New_some (l : List Int) (hl : l.length ≤ 1048576) : ∃ h, Ev (fun k => spec_l01New.f k l) (l, 0, h) := l01New_ev l hl _ 0 _ rfl (by omega)
/-- A cursor's byte: a byte; the cursor stays in its place or goes on. -/
theorem l01Byte_some (l : List Int) (i h : Int) (hi : 0 ≤ i) (hl : l.length ≤ 1048576) (h1 : i ≤ l.length) : ∃ b i' h', spec_l01Byte.f l i h = some (b, i', h') ∧ 0 ≤ b ∧ b ≤ 255 ∧ 0 ≤ i' ∧ i' ≤ l.length := by
 unfold spec_l01Byte.f
 by_cases h0 : i < (l.length : Int)
 ·
  rw [if_pos h0, if_pos hi, wrap_in (n := i + 1) (by omega) (by omega)]
  exact ⟨_, _, _, rfl, (and255 _).1, (and255 _).2, by omega, by omega⟩
 ·
  rw [if_neg h0]
  exact ⟨_, _, _, rfl, (and255 _).1, (and255 _).2, hi, h1⟩
theorem l01Below_some (l : List Int) (i h n : Int) (hi : 0 ≤ i) (hl : l.length ≤ 1048576) (h1 : i ≤ l.length) : ∃ b i' h', spec_l01Below.f l i h n = some (b, i', h') ∧ 0 ≤ b ∧ (0 < n → b < n) ∧ 0 ≤ i' ∧ i' ≤ l.length := by
 unfold spec_l01Below.f
 by_cases h0 : n ≤ 0
 ·
  rw [if_pos h0]
  exact ⟨_, _, _, rfl, by omega, by omega, hi, h1⟩
 rw [if_neg h0]
 obtain ⟨b, i1, g1, e1, b0, b1, c0, c1⟩ := l01Byte_some l i h hi hl h1
 by_cases h2 : n ≤ 256
 ·
  rw [if_pos h2, e1]
  simp only [Option.bind_some]
  rw [if_neg (by omega), Int.tmod_eq_emod_of_nonneg b0]
  exact ⟨_, _, _, rfl, Int.emod_nonneg _ (by omega), fun _ => Int.emod_lt_of_pos _ (by omega), c0, c1⟩
 ·
  rw [if_neg h2]
  obtain ⟨x, i2, g2, e2, x0, x1, d0, d1⟩ := l01Byte_some l i1 g1 c0 hl c1
  obtain ⟨y, i3, g3, e3, y0, y1, f0, f1⟩ := l01Byte_some l i2 g2 d0 hl d1
  obtain ⟨z, i4, g4, e4, z0, z1, m0, m1⟩ := l01Byte_some l i3 g3 f0 hl f1
  rw [e1]
  simp only [Option.bind_some]
  rw [e2]
  simp only [Option.bind_some]
  rw [e3]
  simp only [Option.bind_some]
  rw [e4]
  simp only [Option.bind_some]
  rw [if_neg (by omega), wrap_in (n := b * 16777216) (by omega) (by omega), wrap_in (n := x * 65536) (by omega) (by omega), wrap_in (n := y * 256) (by omega) (by omega), wrap_in (n := b * 16777216 + x * 65536) (by omega) (by omega), wrap_in (n := b * 16777216 + x * 65536 + y * 256) (by omega) (by omega), wrap_in (by omega) (by omega), Int.tmod_eq_emod_of_nonneg (by omega)]
  exact ⟨_, _, _, rfl, Int.emod_nonneg _ (by omega), fun _ => Int.emod_lt_of_pos _ (by omega), m0, m1⟩

/-! ### spec_MakeBytes2 -/
theorem l01Bytes_l0 (l : List Int) (hl : l.length ≤ 1048576) : ∀ (n : Nat) (acc : List Int) (i h : Int), n ≤ 1048576 → Bytes acc → acc.length + n ≤ 4194304 → 0 ≤ i → i ≤ l.length → ∃ r i' h', Ev (fun k => spec_l01Bytes.l0 k acc (n : Int) l i h) (r, i', h') ∧ Bytes r ∧ r.length = acc.length + n ∧ 0 ≤ i' ∧ i' ≤ l.length := by
 intro n
 induction n with
 | zero =>
  intro acc i h hn hb ha hi h1
  exact ⟨acc, i, h, Ev.step (fun _ => rfl) (ev_neg (by omega) (Ev.now _)), hb, rfl, hi, h1⟩
 | succ n ih =>
  intro acc i h hn hb ha hi h1
  obtain ⟨b, i1, g1, e1, b0, b1, c0, c1⟩ := l01Byte_some l i h hi hl h1
  obtain ⟨r, i', h', e, hr, hlen, d0, d1⟩ := ih (acc ++ [b % 256]) i1 g1 (by omega) (hb.app (Bytes.one (by omega) (by omega))) (by simp; omega) c0 c1
  refine ⟨r, i', h', Ev.step (fun _ => rfl) (ev_pos (by omega) (ev_bind0 e1 (ev_pos (by omega) ?_))), hr, ?_, d0, d1⟩
  ·
   rw [wrap_in (by omega) (by omega), show ((n + 1 : Nat) : Int) - 1 = (n : Int) by omega]
   exact e
  ·
   rw [hlen]
   simp
   omega
theorem l01Bytes_some (l : List Int) (i h n : Int) (hl : l.length ≤ 1048576) (h0 : 0 ≤ n) (hn : n ≤ 1000) (hi : 0 ≤ i) (h1 : i ≤ l.length) : ∃ r i' h', Ev (fun k => spec_l01Bytes.f k l i h n) (r, i', h') ∧ Bytes r ∧ r.length ≤ n ∧ 0 ≤ i' ∧ i' ≤ l.length := by
 obtain ⟨b, i1, g1, e1, b0, b1, c0, c1⟩ := l01Below_some l i h (n + 1) hi hl h1
 obtain ⟨m, rfl⟩ := Int.eq_ofNat_of_zero_le b0
 have bm := b1 (by omega)
 obtain ⟨r, i', h', e, hr, hlen, d0, d1⟩ := l01Bytes_l0 l hl m [] i1 g1 (by omega) Bytes.nil (by simp; omega) c0 c1
 refine ⟨r, i', h', ?_, hr, by rw [hlen]; simp; omega, d0, d1⟩
 unfold spec_l01Bytes.f
 rw [wrap_in (by omega) (by omega)]
 exact ev_bind0 e1 e

/-! ### spec_MakeList -/
theorem l06List_l0 (l : List Int) (hl : l.length ≤ 1048576) : ∀ (n : Nat) (acc : List (List Int)) (i h : Int), n + acc.length ≤ 100 → (∀ r ∈ acc, Bytes r ∧ r.length ≤ 4) → 0 ≤ i → i ≤ l.length → ∃ r i' h', Ev (fun k => spec_l06List.l0 k acc (n : Int) l i h) (r, i', h') ∧ (∀ x ∈ r, Bytes x ∧ x.length ≤ 4) ∧ r.length = acc.length + n ∧ 0 ≤ i' ∧ i' ≤ l.length := by
 intro n
 induction n with
 | zero =>
  intro acc i h hn ha hi h1
  exact ⟨acc, i, h, Ev.step (fun _ => rfl) (ev_neg (by omega) (Ev.now _)), ha, rfl, hi, h1⟩
 | succ n ih =>
  intro acc i h hn ha hi h1
  obtain ⟨x, i1, h1', e1, b1, l1, p1, p2⟩ := l01Bytes_some l i h 4 hl (by omega) (by omega) hi h1
  obtain ⟨r, i2, h2, e2, b2, l2, p3, p4⟩ := ih (acc ++ [x]) i1 h1' (by simp; omega) (fun y hy => by
   rcases List.mem_append.1 hy with hy | hy
   ·
    exact ha y hy
   ·
    obtain rfl := List.mem_singleton.1 hy
    exact ⟨b1, by omega⟩) p1 p2
  refine ⟨r, i2, h2, Ev.step (fun _ => rfl) (ev_pos (by omega) (Ev.bind e1 (ev_pos (by omega) ?_))), b2, by rw [l2]; simp; omega, p3, p4⟩
  rw [show wrap64 (((n + 1 : Nat) : Int) - 1) = (n : Int) by rw [wrap_in (by omega) (by omega)]; omega]
  exact e2
theorem makeList_some (l : List Int) (hl : l.length ≤ 1048576) : ∃ r, Ev (fun k => spec_MakeList.f k l) r ∧ (∀ x ∈ r, Bytes x ∧ x.length ≤ 4) ∧ 1 ≤ r.length ∧ r.length ≤ 9 := by
 obtain ⟨h, e0⟩ := l01New_some l hl
 obtain ⟨b, i1, h1, e1, b0, b1, p1, p2⟩ := l01Below_some l 0 h 9 (by omega) hl (by omega)
 obtain ⟨n, rfl⟩ := Int.eq_ofNat_of_zero_le b0
 have hn := b1 (by omega)
 obtain ⟨r, i2, h2, e2, r1, r2, p3, p4⟩ := l06List_l0 l hl n [] i1 h1 (by simp; omega) (fun x hx => by cases hx) p1 p2
 obtain ⟨x, i3, h3, e3, x1, x2, p5, p6⟩ := l01Bytes_some l i2 h2 3 hl (by omega) (by omega) p3 p4
 have hrl : (r ++ [x]).length = n + 1 := by simp at r2 ⊢; omega
 obtain ⟨c, i4, h4, e4, _⟩ := l01Below_some l i3 h3 ((r ++ [x]).length : Int) p5 hl p6
 refine ⟨r ++ [x], ?_, fun y hy => ?_, by omega, by omega⟩
 ·
  unfold spec_MakeList.f
  refine Ev.bind e0 ?_
  have e5 : Ev (fun k => spec_l06List.f k l 0 h 8) (r, i2, h2) := by
   unfold spec_l06List.f
   exact ev_bind0 (by rw [show wrap64 (8 + 1) = 9 from by unfold wrap64; omega]; exact e1) e2
  have e6 : Ev (fun k => spec_l08List.f k l 0 h) (r ++ [x], c, i4, h4) := by
   unfold spec_l08List.f
   exact Ev.bind e5 (Ev.bind e3 (ev_pos (by show r.length < _; simp at r2; omega) (ev_bind0 rfl (ev_bind0 e4 (Ev.now _)))))
  exact Ev.bind e6 (Ev.now _)
 ·
  rcases List.mem_append.1 hy with hy | hy
  ·
   exact r1 y hy
  ·
   obtain rfl := List.mem_singleton.1 hy
   exact ⟨x1, by omega⟩

/-! ### impl_NodeHash -/
theorem impl_nodeHash (a b : List Int) (ha : a.length ≤ 2000000) (hb : b.length ≤ 2000000) (ga : Bytes a) (gb : Bytes b) : Ev (fun k => impl_NodeHash.f k a b) (nodeHash a b) := by
 unfold impl_NodeHash.f
 exact ev_bind0 rfl (ev_pos (by simp; omega) (ev_bind0 rfl (ev_pos (by simp; omega) (Ev.bind (impl_sha ([1] ++ a ++ b) (by simp; omega) (((Bytes.one (by omega) (by omega)).app ga).app gb)) (Ev.now _)))))

/-! ### impl_SplitAt -/
theorem split_ev (n : Int) (hn : n ≤ 9223372036854775807) : ∀ (d e : Nat) (x : Int), x = 2 ^ e → 1 ≤ x → x < n → n - x ≤ d → ∃ (r : Int) (e' : Nat), Ev (fun k => impl_SplitAt.l0 k n x) r ∧ r = 2 ^ e' ∧ 1 ≤ r ∧ r < n ∧ n ≤ 2 * r := by
 intro d
 induction d with
 | zero =>
  intro e x he h1 h2 hd
  omega
 | succ d ih =>
  intro e x he h1 h2 hd
  by_cases h : x < n - x
  ·
   obtain ⟨r, e', hr, hp⟩ := ih (e + 1) (x * 2) (by rw [he, Int.pow_succ]) (by omega) (by omega) (by omega)
   refine ⟨r, e', Ev.step (fun _ => rfl) (ev_pos ?_ ?_), hp⟩
   ·
    rw [wrap_in (by omega) (by omega)]
    exact h
   ·
    rw [wrap_in (by omega) (by omega)]
    exact hr
  ·
   refine ⟨x, e, Ev.step (fun _ => rfl) (ev_neg ?_ (ev_some rfl)), he, h1, h2, by omega⟩
   rw [wrap_in (by omega) (by omega)]
   omega
theorem splitAt_ev (n : Int) (h2 : 2 ≤ n) (hn : n ≤ 9223372036854775807) : ∃ (r : Int) (e : Nat), Ev (fun k => impl_SplitAt.f k n) r ∧ r = 2 ^ e ∧ 1 ≤ r ∧ r < n ∧ n ≤ 2 * r := by
 obtain ⟨r, e, hr, hp⟩ := split_ev n hn (n - 1).toNat 0 1 (by simp) (by omega) (by omega) (by omega)
 exact ⟨r, e, ev_neg (by omega) hr, hp⟩
theorem splitAt_some (n : Int) (hn : n ≤ 9223372036854775807) : ∃ r, Ev (fun k => impl_SplitAt.f k n) r := by
 by_cases h : n < 2
 ·
  exact ⟨0, ev_pos h (ev_some rfl)⟩
 ·
  obtain ⟨r, e, hr, _⟩ := splitAt_ev n (by omega) hn
  exact ⟨r, hr⟩

/-! ### impl_TreeRoot -/
theorem impl_treeRoot_d : ∀ (d : Nat) (l : List (List Int)), l.length ≤ d → l.length ≤ 1048576 → RowsOk l → Ev (fun k => impl_TreeRoot.f k l) (treeRoot l) := by
 intro d
 induction d with
 | zero =>
  intro l hd hl hr
  obtain rfl := List.eq_nil_of_length_eq_zero (show l.length = 0 by omega)
  rw [treeRoot_nil]
  exact Ev.step (fun _ => rfl) (ev_pos (by decide) (Ev.bind (impl_sha [] (by decide) Bytes.nil) (Ev.now _)))
 | succ d ih =>
  intro l hd hl hr
  by_cases h0 : l.length = 0
  ·
   obtain rfl := List.eq_nil_of_length_eq_zero h0
   rw [treeRoot_nil]
   exact Ev.step (fun _ => rfl) (ev_pos (by decide) (Ev.bind (impl_sha [] (by decide) Bytes.nil) (Ev.now _)))
  by_cases h1 : l.length = 1
  ·
   obtain ⟨x, rfl⟩ := List.length_eq_one_iff.1 h1
   rw [treeRoot_one]
   have hx := hr x (by simp)
   exact Ev.step (fun _ => rfl) (ev_neg (by simp) (ev_pos (by simp) (ev_pos (by simp) (Ev.bind (impl_leafHash x (by omega) hx.1) (Ev.now _)))))
  obtain ⟨r, e, hs, he, h2, h3, h4⟩ := splitAt_ev (l.length : Int) (by omega) (by omega)
  obtain ⟨s, rfl⟩ := Int.eq_ofNat_of_zero_le (show 0 ≤ r by omega)
  have hu := splitN_unique (n := l.length) (r := s) (e := e) (by exact_mod_cast he) (by omega) (by omega)
  rw [treeRoot_node (by omega), ← hu]
  refine Ev.step (fun _ => rfl) (ev_neg (by omega) (ev_neg (by omega) (Ev.bind hs (ev_pos (by omega) (ev_pos (by omega) ?_)))))
  rw [Int.toNat_natCast]
  have t1 := treeRoot_len (l.take s)
  have t2 := treeRoot_len (l.drop s)
  exact Ev.bind (ih (l.take s) (by simp; omega) (by simp; omega) (hr.take s)) (Ev.bind (ih (l.drop s) (by simp; omega) (by simp; omega) (hr.drop s)) (Ev.bind (impl_nodeHash _ _ (by omega) (by omega) t1.2 t2.2) (Ev.now _)))
theorem impl_treeRoot (l : List (List Int)) (hl : l.length ≤ 1048576) (hr : RowsOk l) : Ev (fun k => impl_TreeRoot.f k l) (treeRoot l) := impl_treeRoot_d l.length l (Nat.le_refl _) hl hr

attribute [local congr] bind_lazy ite_lazy
theorem sameBytes_refl (a : List Int) : impl_SameBytes.f a a = some true := by
 unfold impl_SameBytes.f
 simp
theorem impl_copyB (x : List Int) (h : x.length ≤ 1048576) : impl_copyBytes.f x = some x := by
 unfold impl_copyBytes.f
 simp only [Option.bind_some, List.nil_append, List.length_nil, Nat.zero_add]
 rw [if_pos (by omega)]
theorem rdL_at (l : List (List Int)) (i : Nat) (h : i < l.length) : rd_L2 l (i : Int) = l[i] := by
 unfold rd_L2
 rw [Int.toNat_natCast, List.getD_eq_getElem?_getD, List.getElem?_eq_getElem h]
 rfl
theorem rd_at (l : List Int) (i : Nat) (h : i < l.length) : rd l (i : Int) = l[i] := by
 unfold rd
 rw [Int.toNat_natCast, List.getD_eq_getElem?_getD, List.getElem?_eq_getElem h]
 rfl
theorem copyList_l0 (l : List (List Int)) (hl : l.length ≤ 1048576) (hr : ∀ r ∈ l, r.length ≤ 1048576) : ∀ (d i : Nat), l.length - i = d → i ≤ l.length → Ev (fun k => impl_copyList.l0 k (l.take i) l (l.length : Int) (i : Int)) l := by
 intro d
 induction d with
 | zero =>
  intro i hd hi
  exact Ev.step (fun _ => rfl) (ev_neg (by omega) (ev_some (List.take_of_length_le (by omega))))
 | succ d ih =>
  intro i hd hi
  have hi' : i < l.length := by omega
  have hx := hr l[i] (List.getElem_mem hi')
  have e : l.take i ++ [l[i]] = l.take (i + 1) := by simp
  have q : (l.take i).length ≤ i := by rw [List.length_take]; omega
  refine Ev.step (fun _ => rfl) (ev_pos (by omega) (ev_pos (by omega) (ev_pos (by omega) ?_)))
  rw [rdL_at l i hi', wrap_succ (by omega)]
  exact ev_bind0 (impl_copyB _ hx) (ev_pos (by omega) (by rw [e]; exact ih (i + 1) (by omega) (by omega)))
theorem copyList_ev (l : List (List Int)) (hl : l.length ≤ 1048576) (hr : ∀ r ∈ l, r.length ≤ 1048576) : Ev (fun k => impl_copyList.f k l) l := copyList_l0 l hl hr _ 0 rfl (Nat.zero_le _)
theorem areHashes_l0 (l : List (List Int)) (hl : l.length ≤ 1048576) (h : ∀ r ∈ l, r.length = 32) : ∀ (d i : Nat), i + d = l.length → Ev (fun k => impl_areHashes.l0 k l (l.length : Int) (i : Int)) true := by
 intro d
 induction d with
 | zero =>
  intro i hi
  exact Ev.step (fun _ => rfl) (ev_neg (by omega) (Ev.now _))
 | succ d ih =>
  intro i hi
  have hi' : i < l.length := by omega
  have e := h _ (List.getElem_mem hi')
  refine Ev.step (fun _ => rfl) (ev_pos (by omega) (ev_pos (by omega) (ev_pos (by omega) ?_)))
  rw [rdL_at l i hi', wrap_succ (by omega)]
  exact ev_pos (by omega) (ih (i + 1) (by omega))
theorem areHashes_ev (l : List (List Int)) (hl : l.length ≤ 1048576) (h : ∀ r ∈ l, r.length = 32) : Ev (fun k => impl_areHashes.f k l) true := areHashes_l0 l hl h l.length 0 (by omega)
/-- A stack's heights fall, and its hashes are hashes. -/
def stackGood (a : List Int) (h : List (List Int)) : Prop := a.length = h.length ∧ (∀ j (hj : j < a.length), (0 ≤ a[j] ∧ a[j] ≤ 20) ∧ ∀ i (hi : i < j), a[j] < a[i]) ∧ ∀ r ∈ h, r.length = 32
theorem in20 (x : Int) (h : 0 ≤ x ∧ x ≤ 20) : impl_within.f x 0 20 = some true := by
 unfold impl_within.f
 rw [if_pos h.1]
 congr 1
 exact decide_eq_true (by omega)
theorem stackOk_l0 (a : List Int) (h : List (List Int)) (g : stackGood a h) (hl : a.length ≤ 1048576) : ∀ (d i : Nat), i + d = a.length → Ev (fun k => impl_StackOk.l0 k a (a.length : Int) (i : Int) a h) true := by
 intro d
 induction d with
 | zero =>
  intro i hi
  have := g.1
  exact Ev.step (fun _ => rfl) (ev_neg (by omega) (ev_pos (by omega) (Ev.bind (areHashes_ev h (by omega) g.2.2) (Ev.now _))))
 | succ d ih =>
  intro i hi
  have hi' : i < a.length := by omega
  obtain ⟨g1, g2⟩ := g.2.1 i hi'
  refine Ev.step (fun _ => rfl) (ev_pos (by omega) (ev_pos (by omega) (ev_pos (by omega) ?_)))
  rw [rd_at a i hi', wrap_succ (by omega)]
  refine ev_bind0 (in20 _ g1) (ev_pos rfl ?_)
  by_cases h0 : 0 < i
  ·
   have q := g2 (i - 1) (by omega)
   rw [wrap_in (n := (i : Int) - 1) (by omega) (by omega), show (i : Int) - 1 = ((i - 1 : Nat) : Int) by omega, rd_at a (i - 1) (by omega)]
   exact ev_pos (by omega) (ev_pos (by omega) (ev_pos (by omega) (ev_neg (by omega) (ih (i + 1) (by omega)))))
  ·
   exact ev_neg (by omega) (ih (i + 1) (by omega))
theorem stackOk_ev (a : List Int) (h : List (List Int)) (g : stackGood a h) (hl : a.length ≤ 1048576) : Ev (fun k => impl_StackOk.f k a h) true := stackOk_l0 a h g hl a.length 0 (by omega)
/-- A stack of leaves: whole trees, each of more leaves than the next one. -/
inductive Stk : List Int → List (List Int) → List (List Int) → Prop
 | nil : Stk [] [] []
 | snoc (a : List Int) (h l : List (List Int)) (e : Nat) (s : List (List Int)) : Stk a h l → s.length = 2 ^ e → (∀ y ∈ a, (e : Int) < y) → Stk (a ++ [(e : Int)]) (h ++ [treeRoot s]) (l ++ s)
theorem pow_le_of {e : Nat} (h : 2 ^ e ≤ 1048576) : e ≤ 20 := by
 have : 2 ^ e < 2 ^ 21 := by omega
 have := (Nat.pow_lt_pow_iff_right (by decide)).1 this
 omega
theorem Stk.good {a : List Int} {h l : List (List Int)} (k : Stk a h l) (hl : l.length ≤ 1048576) : stackGood a h := by
 induction k with
 | nil => exact ⟨rfl, fun j hj => absurd hj (Nat.not_lt_zero _), fun r hr => by cases hr⟩
 | snoc a h l e s k hs hy ih =>
  rw [List.length_append] at hl
  obtain ⟨g1, g2, g3⟩ := ih (by omega)
  have he := pow_le_of (e := e) (by omega)
  refine ⟨by simp [g1], fun j hj => ?_, fun r hr => ?_⟩
  ·
   rw [List.length_append, List.length_singleton] at hj
   by_cases hja : j < a.length
   ·
    obtain ⟨q1, q2⟩ := g2 j hja
    rw [List.getElem_append_left hja]
    refine ⟨q1, fun i hi => ?_⟩
    rw [List.getElem_append_left (by omega)]
    exact q2 i hi
   ·
    obtain rfl : j = a.length := by omega
    have ej : (a ++ [(e : Int)])[a.length]'(by simp) = (e : Int) := by simp
    rw [ej]
    refine ⟨⟨by omega, by omega⟩, fun i hi => ?_⟩
    rw [List.getElem_append_left hi]
    exact hy _ (List.getElem_mem hi)
  ·
   rcases List.mem_append.1 hr with hr | hr
   ·
    exact g3 r hr
   ·
    obtain rfl : r = treeRoot s := by simpa using hr
    exact (treeRoot_len s).1
theorem Stk.len {a : List Int} {h l : List (List Int)} (k : Stk a h l) : a.length = h.length := by
 induction k with
 | nil => rfl
 | snoc a h l e s k hs hy ih => simp [ih]
theorem Stk.short {a : List Int} {h l : List (List Int)} (k : Stk a h l) : a.length ≤ l.length := by
 induction k with
 | nil => exact Nat.le_refl _
 | snoc a h l e s k hs hy ih =>
  have : 0 < 2 ^ e := Nat.pow_pos (by decide)
  simp only [List.length_append, List.length_singleton]
  omega
theorem Stk.rows {a : List Int} {h l : List (List Int)} (k : Stk a h l) : RowsOk h := by
 induction k with
 | nil => exact fun r hr => by cases hr
 | snoc a h l e s k hs hy ih =>
  intro r hr
  rcases List.mem_append.1 hr with hr | hr
  ·
   exact ih r hr
  ·
   obtain rfl : r = treeRoot s := by simpa using hr
   have := treeRoot_len s
   exact ⟨this.2, by omega⟩
theorem treeRoot_join {e : Nat} {s t : List (List Int)} (hs : s.length = 2 ^ e) (h0 : 0 < t.length) (h1 : t.length ≤ 2 ^ e) : treeRoot (s ++ t) = nodeHash (treeRoot s) (treeRoot t) := by
 have h2 : 0 < 2 ^ e := Nat.pow_pos (by decide)
 have hl : (s ++ t).length = s.length + t.length := List.length_append
 have hu := splitN_unique (n := (s ++ t).length) (r := s.length) (e := e) hs (by omega) (by omega)
 rw [treeRoot_node (by omega), ← hu, List.take_left' rfl, List.drop_left' rfl]
theorem set_take_last {α : Type} (a : List α) (x u v : α) : ((a ++ [x] ++ [u]).set a.length v).take (a.length + 1) = a ++ [v] := by
 rw [List.append_assoc, List.set_append_right _ _ (Nat.le_refl _), Nat.sub_self]
 show (a ++ [v, u]).take (a.length + 1) = _
 rw [List.take_append, List.take_of_length_le (by omega)]
 simp
/-- The merge ends in a stack of all leaves. -/
theorem merge_ev {a : List Int} {h l : List (List Int)} (k : Stk a h l) : ∀ (up : Nat) (s : List (List Int)), s.length = 2 ^ up → (∀ y ∈ a, (up : Int) ≤ y) → (l ++ s).length ≤ 1048576 →
  ∃ a2 h2, Stk a2 h2 (l ++ s) ∧ Ev (fun k => impl_StackPush.l0 k ((a.length + 1 : Nat) : Int) (a ++ [(up : Int)]) (h ++ [treeRoot s])) (a2, h2, true) := by
 have last : ∀ (a : List Int) (h l : List (List Int)) (up : Nat) (s : List (List Int)), Stk a h l → s.length = 2 ^ up → (∀ y ∈ a, (up : Int) < y) → (l ++ s).length ≤ 1048576 → Stk (a ++ [(up : Int)]) (h ++ [treeRoot s]) (l ++ s) ∧ Ev (fun k => (impl_StackOk.f k (a ++ [(up : Int)]) (h ++ [treeRoot s])).bind fun t => if t = true then some (a ++ [(up : Int)], h ++ [treeRoot s], true) else some ([], [], false)) (a ++ [(up : Int)], h ++ [treeRoot s], true) := by
  intro a h l up s k hs hy hl
  have k2 := Stk.snoc a h l up s k hs hy
  have := k2.short
  exact ⟨k2, Ev.bind (stackOk_ev _ _ (k2.good hl) (by omega)) (ev_pos rfl (Ev.now _))⟩
 induction k with
 | nil =>
  intro up s hs hy hl
  obtain ⟨k2, e2⟩ := last [] [] [] up s Stk.nil hs (fun y hy => by cases hy) hl
  exact ⟨_, _, k2, Ev.step (fun _ => rfl) (ev_neg (by simp) e2)⟩
 | snoc a h l e s1 k hs1 hy1 ih =>
  intro up s hs hy hl
  have k1 := Stk.snoc a h l e s1 k hs1 hy1
  have hlen := k.len
  have hsh := k1.short
  have hl2 : (a ++ [(e : Int)]).length = a.length + 1 := by simp
  have hl3 : (l ++ s1 ++ s).length = l.length + s1.length + s.length := by rw [List.length_append, List.length_append]
  have hl4 : (l ++ s1).length = l.length + s1.length := by simp
  have hue : (up : Int) ≤ (e : Int) := hy _ (by simp)
  have w2 : wrap64 (((a ++ [(e : Int)]).length + 1 : Nat) - 1) = ((a.length + 1 : Nat) : Int) := by rw [wrap_in (by omega) (by omega)]; omega
  have w3 : wrap64 (((a ++ [(e : Int)]).length + 1 : Nat) - 2) = (a.length : Int) := by rw [wrap_in (by omega) (by omega)]; omega
  have d1 : rd (a ++ [(e : Int)] ++ [(up : Int)]) ((a.length + 1 : Nat) : Int) = (up : Int) := by
   rw [rd_at _ _ (by simp), List.getElem_append_right (by simp)]
   simp
  have d2 : rd (a ++ [(e : Int)] ++ [(up : Int)]) (a.length : Int) = (e : Int) := by
   rw [rd_at _ _ (by simp), List.getElem_append_left (by simp), List.getElem_append_right (Nat.le_refl _)]
   simp
  have d3 : rd_L2 (h ++ [treeRoot s1] ++ [treeRoot s]) ((a.length + 1 : Nat) : Int) = treeRoot s := by
   rw [rdL_at _ _ (by simp; omega), List.getElem_append_right (by simp; omega)]
   simp
  have d4 : rd_L2 (h ++ [treeRoot s1] ++ [treeRoot s]) (a.length : Int) = treeRoot s1 := by
   rw [rdL_at _ _ (by simp; omega), List.getElem_append_left (by simp; omega), List.getElem_append_right (by omega)]
   simp
  have t1 := treeRoot_len s1
  have t2 := treeRoot_len s
  by_cases heq : (up : Int) = (e : Int)
  ·
   obtain rfl : up = e := by omega
   have hp : 0 < 2 ^ up := Nat.pow_pos (by decide)
   have hj := treeRoot_join hs1 (t := s) (by omega) (by omega)
   have hup := pow_le_of (e := up) (by omega)
   obtain ⟨a2, h2, q1, q2⟩ := ih (up + 1) (s1 ++ s) (by rw [List.length_append, hs1, hs, Nat.pow_succ]; omega) (fun y hy => by have := hy1 y hy; omega) (by rw [← List.append_assoc]; exact hl)
   rw [← List.append_assoc] at q1
   refine ⟨a2, h2, q1, Ev.step (fun _ => rfl) (ev_pos (by simp; omega) ?_)⟩
   rw [w2, w3, d1, d2, d3, d4, Int.toNat_natCast, Int.toNat_natCast, set_take_last, wrap_succ (by omega)]
   refine ev_pos (by omega) (ev_pos (by simp) (ev_pos (by omega) (ev_pos (by simp; omega) (ev_pos rfl (ev_pos (by simp; omega) (ev_pos (by simp; omega) (Ev.bind (impl_nodeHash _ _ (by omega) (by omega) t1.2 t2.2) (ev_pos (by simp) (ev_pos (by simp; omega) ?_)))))))))
   rw [hlen, set_take_last, ← hj, ← hlen]
   exact q2
  ·
   obtain ⟨k2, e2⟩ := last _ _ _ up s k1 hs (fun y hy' => by
    have := hy y hy'
    rcases List.mem_append.1 hy' with q | q
    ·
     have := hy1 y q
     omega
    ·
     obtain rfl : y = (e : Int) := by simpa using q
     omega) hl
   refine ⟨_, _, k2, Ev.step (fun _ => rfl) (ev_pos (by simp; omega) ?_)⟩
   rw [w2, w3, d1, d2]
   exact ev_pos (by omega) (ev_pos (by simp) (ev_pos (by omega) (ev_pos (by simp; omega) (ev_neg heq e2))))
theorem impl_push_yes (x a : List Int) (h : List (List Int)) (ha : a.length ≤ 1048576) (hh : h.length ≤ 1048576) (hx : x.length ≤ 1048576) (ec : Ev (fun k => impl_copyList.f k h) h) (r : List Int × List (List Int) × Bool) (e : Ev (fun k => impl_StackPush.l0 k (([] ++ a ++ [0] : List Int).length : Int) ([] ++ a ++ [0]) (h ++ [x])) r) : Ev (fun k => impl_StackPush.j0 k x false a h) r := by
 refine Ev.step (g := fun k => impl_StackPush.j0 k x false a h) (f := fun k => (some ([] : List Int)).bind fun y => if y.length + a.length < 17592186044416 then (some (y ++ a)).bind fun z => (some ([0] : List Int)).bind fun u => if z.length + u.length < 17592186044416 then (some (z ++ u)).bind fun v => (impl_copyList.f k h).bind fun t => (impl_copyBytes.f x).bind fun s => (some [s]).bind fun y' => if t.length + y'.length < 5864062014805 then impl_StackPush.l0 k (v.length : Int) v (t ++ y') else none else none else none) (fun k => by simp only [impl_StackPush.j0, Bool.false_eq_true, if_false]) ?_
 refine ev_bind0 rfl (ev_pos (by simp; omega) (ev_bind0 rfl (ev_bind0 rfl (ev_pos (by simp; omega) (ev_bind0 rfl (Ev.bind ec (ev_bind0 (impl_copyB x hx) (ev_bind0 rfl (ev_pos (by simp; omega) ?_)))))))))
 exact e
theorem push_ev {a : List Int} {h l : List (List Int)} (k : Stk a h l) (x : List Int) (hl : l.length < 1048576) : ∃ a2 h2, Stk a2 h2 (l ++ [x]) ∧ Ev (fun k => impl_StackPush.f k a h (leafHash x)) (a2, h2, true) := by
 have hsh := k.short
 have hlen := k.len
 have g := k.good (by omega)
 have h32 := leafHash_length x
 obtain ⟨a2, h2, q1, q2⟩ := merge_ev k 0 [x] rfl (fun y hy => by
  obtain ⟨j, hj, rfl⟩ := List.mem_iff_getElem.1 hy
  exact (g.2.1 j hj).1.1) (by simp; omega)
 rw [treeRoot_one] at q2
 refine ⟨a2, h2, q1, Ev.bind (stackOk_ev a h g (by omega)) (ev_pos rfl (Ev.bind (areHashes_ev [leafHash x] (by simp) (fun r hr => by (obtain rfl : r = leafHash x := (by simpa using hr)); exact h32)) ?_))⟩
 refine impl_push_yes _ a h (by omega) (by omega) (by omega) (copyList_ev h (by omega) (fun r hr => (k.rows r hr).2)) _ ?_
 rw [List.nil_append, List.length_append, List.length_singleton]
 exact q2
theorem stackOf_l0 (l : List (List Int)) (hl : l.length ≤ 1048575) (hk : RowsOk l) : ∀ (d i : Nat) (a : List Int) (h : List (List Int)), i + d = l.length → Stk a h (l.take i) → ∃ a2 h2, Stk a2 h2 l ∧ Ev (fun k => impl_StackOf.l0 k l (l.length : Int) (i : Int) a h) (a2, h2, true) := by
 intro d
 induction d with
 | zero =>
  intro i a h hi k
  rw [List.take_of_length_le (by omega)] at k
  exact ⟨a, h, k, Ev.step (fun _ => rfl) (ev_neg (by omega) (Ev.now _))⟩
 | succ d ih =>
  intro i a h hi k
  have hi' : i < l.length := by omega
  obtain ⟨gb, gl⟩ := hk l[i] (List.getElem_mem hi')
  obtain ⟨a1, h1, k1, e1⟩ := push_ev k l[i] (by rw [List.length_take]; omega)
  have e : l.take i ++ [l[i]] = l.take (i + 1) := by simp
  rw [e] at k1
  obtain ⟨a2, h2, k2, e2⟩ := ih (i + 1) a1 h1 (by omega) k1
  refine ⟨a2, h2, k2, Ev.step (fun _ => rfl) (ev_pos (by omega) (ev_pos (by omega) (ev_pos (by omega) ?_)))⟩
  rw [rdL_at l i hi', wrap_succ (by omega)]
  exact Ev.bind (impl_leafHash l[i] (by omega) gb) (Ev.bind e1 (ev_pos rfl e2))
theorem stackOf_ev (l : List (List Int)) (hl : l.length ≤ 1048575) (hk : RowsOk l) : ∃ a h, Stk a h l ∧ Ev (fun k => impl_StackOf.f k l) (a, h, true) := stackOf_l0 l hl hk l.length 0 [] [] (by omega) Stk.nil
/-- The leaves of a stack's first trees. -/
theorem size_l0 {A : List Int} {H L : List (List Int)} (K : Stk A H L) (hL : L.length ≤ 1048576) {a : List Int} {h l : List (List Int)} (k : Stk a h l) : ∀ (b : List Int) (t : List (List Int)) (r : Int), A = a ++ b → l.length + t.length ≤ 1048576 → Ev (fun k => impl_StackSize.l0 k (l.length : Int) A (A.length : Int) (a.length : Int) A H) r → Ev (fun k => impl_StackSize.l0 k 0 A (A.length : Int) 0 A H) r := by
 induction k with
 | nil => exact fun b t r _ _ e => e
 | snoc a h l e s k hs hy ih =>
  intro b t r hA ht er
  have hsh := K.short
  have h2 : 0 < 2 ^ e := Nat.pow_pos (by decide)
  rw [List.length_append] at ht
  have he := pow_le_of (e := e) (by omega)
  have hAl : A.length = a.length + 1 + b.length := by rw [hA, List.length_append, List.length_append, List.length_singleton]
  have d : rd A (a.length : Int) = (e : Int) := by
   rw [rd_at _ _ (by omega)]
   subst hA
   simp
  refine ih ([(e : Int)] ++ b) (s ++ t) r (by rw [hA, List.append_assoc]) (by rw [List.length_append]; omega) (Ev.step (fun _ => rfl) (ev_pos (by omega) (ev_pos (by omega) (ev_pos (by omega) (Ev.bind (stackOk_ev A H (K.good hL) (by omega)) (ev_pos rfl ?_))))))
  have hsh1 : shl .i64 1 (e : Int) = ((2 ^ e : Nat) : Int) := by
   have hb : (2 : Nat) ^ e ≤ 2 ^ 20 := Nat.pow_le_pow_right (by decide) he
   have hc : ((2 ^ e : Nat) : Int) ≤ ((2 ^ 20 : Nat) : Int) := Int.ofNat_le.2 hb
   have hd : (1 : Int) * 2 ^ ((e : Int)).toNat = ((2 ^ e : Nat) : Int) := by rw [Int.toNat_natCast, Int.one_mul]; norm_cast
   rw [shl_i64 1 (e : Int) (by omega) (by omega) (by rw [hd]; omega) (by rw [hd]; omega), hd]
  rw [d, hsh1, wrap_succ (by omega), wrap_in (by omega) (by omega)]
  rw [List.length_append, List.length_append, List.length_singleton, hs] at er
  refine ev_pos (by omega) ?_
  exact_mod_cast er
theorem size_ev {a : List Int} {h l : List (List Int)} (k : Stk a h l) (hl : l.length ≤ 1048576) : Ev (fun k => impl_StackSize.f k a h) (l.length : Int) :=
 size_l0 k hl k [] [] _ (by simp) (by simp; omega) (Ev.step (fun _ => rfl) (ev_neg (by omega) (Ev.now _)))
/-- The fold from the end comes to the root of all leaves. -/
theorem root_l0 (A : List Int) (H : List (List Int)) (hH : H.length ≤ 1048576) {a : List Int} {h l : List (List Int)} (k : Stk a h l) : ∀ (b : List (List Int)) (s : List (List Int)), H = h ++ b → 0 < s.length → (∀ y ∈ a, ∀ e : Nat, y = (e : Int) → s.length ≤ 2 ^ e) → Ev (fun k => impl_StackRoot.l0 k (treeRoot s) ((a.length : Int) - 1) A H) (treeRoot (l ++ s)) := by
 induction k with
 | nil =>
  intro b s _ h0 _
  exact Ev.step (fun _ => rfl) (ev_neg (by simp) (Ev.now _))
 | snoc a h l e s1 k hs hy ih =>
  intro b s hB h0 hs2
  have hlen := k.len
  have hHl : H.length = h.length + 1 + b.length := by rw [hB, List.length_append, List.length_append, List.length_singleton]
  have e1 : ((a ++ [(e : Int)]).length : Int) - 1 = (a.length : Int) := by simp
  have d : rd_L2 H (a.length : Int) = treeRoot s1 := by
   rw [rdL_at _ _ (by omega)]
   subst hB
   simp [hlen]
  have t1 := treeRoot_len s1
  have t2 := treeRoot_len s
  have hle := hs2 (e : Int) (by simp) e rfl
  have hj := treeRoot_join hs h0 hle
  rw [e1]
  refine Ev.step (fun _ => rfl) (ev_pos (by omega) (ev_pos (by omega) (ev_pos (by omega) ?_)))
  rw [d, wrap_in (n := (a.length : Int) - 1) (by omega) (by omega)]
  refine Ev.bind (impl_nodeHash _ _ (by omega) (by omega) t1.2 t2.2) ?_
  rw [← hj, List.append_assoc]
  refine ih ([treeRoot s1] ++ b) (s1 ++ s) (by rw [hB, List.append_assoc]) (by rw [List.length_append]; omega) (fun y hy' e' he' => ?_)
  have q := hy y hy'
  have : e + 1 ≤ e' := by omega
  have := Nat.pow_le_pow_right (n := 2) (by decide) this
  rw [Nat.pow_succ] at this
  rw [List.length_append]
  omega
theorem root_ev {a : List Int} {h l : List (List Int)} (k : Stk a h l) (hl : l.length ≤ 1048576) : Ev (fun k => impl_StackRoot.f k a h) (treeRoot l) := by
 have hsh := k.short
 have hlen := k.len
 refine Ev.bind (stackOk_ev a h (k.good hl) (by omega)) (ev_pos rfl ?_)
 cases k with
 | nil =>
  rw [treeRoot_nil]
  exact ev_pos (by simp) (Ev.bind (impl_sha [] (by simp) Bytes.nil) (Ev.now _))
 | snoc a h l e s k hs hy =>
  have hlen' := k.len
  have h2 : 0 < 2 ^ e := Nat.pow_pos (by decide)
  have hh : (h ++ [treeRoot s]).length = h.length + 1 := by simp
  have w1 : wrap64 (((h ++ [treeRoot s]).length : Int) - 1) = (h.length : Int) := by rw [wrap_in (by omega) (by omega)]; omega
  have w2 : wrap64 (((h ++ [treeRoot s]).length : Int) - 2) = (a.length : Int) - 1 := by rw [wrap_in (by omega) (by omega)]; omega
  have t := treeRoot_len s
  have d : rd_L2 (h ++ [treeRoot s]) (h.length : Int) = treeRoot s := by
   rw [rdL_at _ _ (by simp)]
   simp
  refine ev_neg (by omega) (ev_pos (by omega) (ev_pos (by omega) ?_))
  rw [w1, w2, d]
  refine ev_bind0 (impl_copyB _ (by omega)) (root_l0 _ _ (by omega) k [treeRoot s] s rfl (by omega) (fun y hy' e' he' => ?_))
  have q := hy y hy'
  have : e ≤ e' := by omega
  have := Nat.pow_le_pow_right (n := 2) (by decide) this
  omega
theorem FnStack (code : List Int) (hc : code.length ≤ 9223372036854775807) (hw : ∀ n ∈ code, (Lit.int .u8 n).wf = true) :
  (1048576 < code.length) ∨
  ∃ k l a h x a2 h2 r1 r2 r0, ¬ 1048576 < code.length ∧ spec_MakeList.f k code = some l ∧ impl_StackOf.f k l = some (a, h, true) ∧ impl_LeafHash.f k [5] = some x ∧ impl_StackPush.f k a h x = some (a2, h2, true) ∧ impl_StackOk.f k a h = some true ∧ impl_StackSize.f k a h = some (l.length : Int) ∧ impl_StackSize.f k a2 h2 = some ((l.length : Int) + 1) ∧ impl_StackRoot.f k a h = some r1 ∧ impl_TreeRoot.f k l = some r1 ∧ impl_SameBytes.f r1 r1 = some true ∧ impl_StackRoot.f k a2 h2 = some r2 ∧ impl_TreeRoot.f k (l ++ [[5]]) = some r2 ∧ impl_SameBytes.f r2 r2 = some true ∧ impl_StackRoot.f k [] [] = some r0 ∧ impl_TreeRoot.f k [] = some r0 ∧ impl_SameBytes.f r0 r0 = some true ∧ l.length ≤ 9 := by
 by_cases g : 1048576 < code.length
 ·
  exact .inl g
 obtain ⟨l, ⟨K0, e0⟩, q, l1, l9⟩ := makeList_some code (by omega)
 have hk : RowsOk l := fun r hr => ⟨(q r hr).1, by have := (q r hr).2; omega⟩
 have b5 : Bytes [5] := Bytes.one (by omega) (by omega)
 obtain ⟨a, h, k1, ⟨K1, e1⟩⟩ := stackOf_ev l (by omega) hk
 obtain ⟨K2, e2⟩ := impl_leafHash [5] (by simp) b5
 obtain ⟨a2, h2, k2, ⟨K3, e3⟩⟩ := push_ev k1 [5] (by omega)
 have hl2 : (l ++ [[5]]).length = l.length + 1 := by simp
 have s1 := k1.short
 obtain ⟨K4, e4⟩ := stackOk_ev a h (k1.good (by omega)) (by omega)
 obtain ⟨K5, e5⟩ := size_ev k1 (by omega)
 obtain ⟨K6, e6⟩ := size_ev k2 (by omega)
 rw [hl2] at e6
 obtain ⟨K7, e7⟩ := root_ev k1 (by omega)
 obtain ⟨K8, e8⟩ := impl_treeRoot l (by omega) hk
 obtain ⟨K9, e9⟩ := root_ev k2 (by omega)
 obtain ⟨K10, e10⟩ := impl_treeRoot (l ++ [[5]]) (by omega) (fun r hr => by
  rcases List.mem_append.1 hr with hr | hr
  ·
   exact hk r hr
  ·
   obtain rfl : r = [5] := by simpa using hr
   exact ⟨b5, by simp⟩)
 obtain ⟨K11, e11⟩ := root_ev Stk.nil (by simp)
 obtain ⟨K12, e12⟩ := impl_treeRoot [] (by simp) (fun r hr => by cases hr)
 exact .inr ⟨K0 + K1 + K2 + K3 + K4 + K5 + K6 + K7 + K8 + K9 + K10 + K11 + K12, l, a, h, leafHash [5], a2, h2, treeRoot l, treeRoot (l ++ [[5]]), treeRoot [], g, e0 _ (by omega), e1 _ (by omega), e2 _ (by omega), e3 _ (by omega), e4 _ (by omega), e5 _ (by omega), by have := e6 (K0 + K1 + K2 + K3 + K4 + K5 + K6 + K7 + K8 + K9 + K10 + K11 + K12) (by omega); exact_mod_cast this, e7 _ (by omega), e8 _ (by omega), sameBytes_refl _, e9 _ (by omega), e10 _ (by omega), sameBytes_refl _, e11 _ (by omega), e12 _ (by omega), sameBytes_refl _, l9⟩

end Go.Proofs.Ytjfhbmbiegccnaa.Pure
