/- Every leaf has an inclusion proof of the specified length: the law's function answers true for every argument. Conditions: those of the printed statement alone. -/
import Derived.Test.YtjfhbmbiegccnaaQFnPathx5
import Derived.Test.YtjfhbmbiegccnaaLib
import Derived.Test.YtjfhbmbiegccnaaLibNum
import Derived.Test.YtjfhbmbiegccnaaLibTree
import Derived.Test.YtjfhbmbiegccnaaLibSha
import Derived.Test.YtjfhbmbiegccnaaLibHash
import Derived.Test.YtjfhbmbiegccnaaLibMac
import Derived.Test.YtjfhbmbiegccnaaLibDraw
set_option linter.unusedVariables false
set_option linter.unusedSimpArgs false
set_option maxRecDepth 4000
namespace Go.Proofs.Ytjfhbmbiegccnaa.Pure
open Go.RowKit Go.Proofs.Ytjfhbmbiegccnaa.QFnPath Go.Proofs.YtjfhbmbiegccnaaW.PrintWords Go.Proofs.YtjfhbmbiegccnaaW.PrintLast Go.Proofs.YtjfhbmbiegccnaaW.PrintMore Go.Proofs.Ytjfhbmbiegccnaa.Lib

/-! ### impl_ShaPad -/
theorem impl_shaPad_l1 (l : List Int) (hl : l.length ≤ 4194304) : ∀ (j : Nat) (acc : List Int), j ≤ 8 → acc.length + j ≤ 140737488355000 → Ev (fun k => impl_ShaPad.l1 k l acc ((j : Int) - 1)) (acc ++ beB (8 * l.length) j) := by
  intro j
  induction j with
  | zero =>
    intro acc hj ha
    exact Ev.step (fun _ => rfl) (ev_neg (by omega) (ev_some (by simp [beB])))
  | succ j ih =>
    intro acc hj ha
    rw [show ((j + 1 : Nat) : Int) - 1 = (j : Int) by omega]
    refine Ev.step (fun _ => rfl) (ev_pos (by omega) (ev_pos (by rw [wrap_in (by omega) (by omega)]; omega) (ev_pos (by omega) ?_)))
    rw [wrap_in (n := 8 * (j : Int)) (by omega) (by omega), wrap_in (n := 8 * (l.length : Int)) (by omega) (by omega), shr_i64 _ _ (by omega) (by omega), show (8 * (j : Int)).toNat = 8 * j by omega, wrap_in (n := (j : Int) - 1) (by omega) (by omega)]
    have e : 8 * (l.length : Int) / 2 ^ (8 * j) % 256 = ((8 * l.length / 256 ^ j % 256 : Nat) : Int) := by
      rw [← pow256]
      simp
    rw [e]
    have := ih (acc ++ [((8 * l.length / 256 ^ j % 256 : Nat) : Int)]) (by omega) (by simp; omega)
    simpa [beB] using this
theorem impl_shaPad_l0 (l : List Int) (hl : l.length ≤ 4194304) : ∀ (d : Nat) (acc : List Int), (acc.length + d) % 64 = 56 → d < 64 → acc.length + d ≤ 140737488354000 → Ev (fun k => impl_ShaPad.l0 k l acc) (acc ++ List.replicate d 0 ++ beB (8 * l.length) 8) := by
  intro d
  induction d with
  | zero =>
    intro acc h0 h1 ha
    refine Ev.step (fun _ => rfl) (ev_pos (by omega) ?_)
    have := impl_shaPad_l1 l hl 8 acc (by omega) (by omega)
    simpa using this
  | succ d ih =>
    intro acc h0 h1 ha
    refine Ev.step (fun _ => rfl) (ev_neg (by omega) (ev_pos (by omega) ?_))
    have hl1 : (acc ++ [0]).length = acc.length + 1 := by simp
    have := ih (acc ++ [0]) (by rw [hl1, ← h0]; congr 1; omega) (by omega) (by rw [hl1]; omega)
    simpa [List.replicate_succ] using this
theorem impl_shaPad (l : List Int) (hl : l.length ≤ 4194304) : Ev (fun k => impl_ShaPad.f k l) (shaPad l) := by
  unfold impl_ShaPad.f
  have hc : impl_copyBytes.f l = some l := by
    unfold impl_copyBytes.f
    simp only [Option.bind_some, List.nil_append, List.length_nil, Nat.zero_add]
    rw [if_pos (by omega)]
  refine ev_bind0 hc (ev_pos (by omega) ?_)
  exact impl_shaPad_l0 l hl (missing l.length) (l ++ [128]) (by simp only [missing, List.length_append, List.length_cons, List.length_nil]; omega) (by unfold missing; omega) (by rw [List.length_append]; unfold missing; simp only [List.length_cons, List.length_nil]; omega)

/-! ### impl_Sha -/
theorem impl_sha_l1 (h : List Int) (hh : h.length = 8) : ∀ (d i : Nat) (acc : List Int), i + d = 8 → acc.length = 4 * i → Ev (fun k => impl_Sha.l1 k acc h 8 (i : Int)) (acc ++ shaOut (h.drop i)) := by
  intro d
  induction d with
  | zero =>
    intro i acc hi ha
    refine Ev.step (fun _ => rfl) (ev_neg (by omega) (ev_some ?_))
    rw [List.drop_of_length_le (by omega)]
    simp [shaOut]
  | succ d ih =>
    intro i acc hi ha
    refine Ev.step (fun _ => rfl) (ev_pos (by omega) (ev_pos (by omega) (ev_pos (by omega) (ev_bind0 rfl (ev_pos (by simp; omega) ?_)))))
    rw [wrap_succ (by omega)]
    have := ih (i + 1) (acc ++ word4 (rd h (i : Int))) (by omega) (by simp [word4]; omega)
    rw [rd_at (show i < h.length by omega)] at this ⊢
    rw [List.drop_eq_getElem_cons (show i < h.length by omega), shaOut_cons, ← List.append_assoc]
    exact this
theorem impl_sha_l0 (p : List Int) (hp : p.length ≤ 4194304) (hb : Bytes p) : ∀ (n i : Nat) (h : List Int), Words h → 64 * i + n * 64 = p.length → Ev (fun k => impl_Sha.l0 k h p ((64 * i : Nat) : Int)) (shaOut (shaBlocks n (p.drop (64 * i)) h)) := by
  intro n
  induction n with
  | zero =>
    intro i h hh hi
    refine Ev.step (fun _ => rfl) (ev_neg (by omega) ?_)
    rw [hh.1]
    exact impl_sha_l1 h hh.1 8 0 [] rfl rfl
  | succ n ih =>
    intro i h hh hi
    have e1 : wrap64 (((64 * i : Nat) : Int) + 64) = ((64 * (i + 1) : Nat) : Int) := by unfold wrap64; omega
    have e2 : (p.take (64 * (i + 1))).drop (64 * i) = (p.drop (64 * i)).take 64 := by
      rw [List.drop_take]
      congr 1
      omega
    have e3 : p.drop (64 * (i + 1)) = (p.drop (64 * i)).drop 64 := by
      rw [List.drop_drop]
      congr 1
    refine Ev.step (fun _ => rfl) ?_
    simp only [impl_Sha.l0, e1, Int.toNat_natCast, e2]
    refine ev_pos (by omega) (ev_pos (by omega) (ev_pos (by omega) (ev_pos (by omega) ?_)))
    refine ev_bind0 (x := ShaBase.blockOf h ((p.drop (64 * i)).take 64)) (by unfold impl_ShaBlock.f; exact if_pos (List.all_eq_true.2 (fun x hx => by have := hb x (List.mem_of_mem_drop (List.mem_of_mem_take hx)); simp [this]))) ?_
    have := ih (i + 1) _ (block_words hh (l := (p.drop (64 * i)).take 64) (by rw [List.length_take, List.length_drop]; omega)) (by omega)
    rw [e3] at this
    exact this
theorem impl_sha (l : List Int) (hl : l.length ≤ 4194000) (hb : Bytes l) : Ev (fun k => impl_Sha.f k l) (sha l) := by
  have hn := shaPad_length l
  have hm := shaPad_mod l
  unfold impl_Sha.f
  refine ev_bind0 rfl (Ev.bind (impl_shaPad l (by omega)) ?_)
  have := impl_sha_l0 (shaPad l) (by omega) (shaPad_bytes l hb) ((shaPad l).length / 64) 0 shaInit shaInit_words (by omega)
  exact this

/-! ### impl_LeafHash -/
theorem impl_leafHash (l : List Int) (hl : l.length ≤ 4190000) (hb : Bytes l) : Ev (fun k => impl_LeafHash.f k l) (leafHash l) := by
  unfold impl_LeafHash.f
  exact ev_bind0 rfl (ev_pos (by simp; omega) (Ev.bind (impl_sha ([0] ++ l) (by simp; omega) ((Bytes.one (by omega) (by omega)).app hb)) (Ev.now _)))

/-! ### spec_MakeBytes -/
theorem l01New_ev (l : List Int) (hl : l.length ≤ 1048576) : ∀ (d i : Nat) (h : Int), l.length - i = d → i ≤ l.length → ∃ h', Ev (fun k => spec_l01New.l0 k l h (i : Int)) (l, 0, h') := by
  intro d
  induction d with
  | zero =>
    intro i h hd hi
    exact ⟨h, Ev.step (fun _ => rfl) (ev_neg (by omega) (Ev.now _))⟩
  | succ d ih =>
    intro i h hd hi
    by_cases h4 : (i : Int) < 4000
    · obtain ⟨h', e⟩ := ih (i + 1) (Go.bits .and .i64 (wrap64 ((wrap64 ((wrap64 (h * 37)) + (wrap64 (rd l i)))) + 7)) 1073741823) (by omega) (by omega)
      refine ⟨h', Ev.step (fun _ => rfl) (ev_pos (by omega) (ev_pos h4 (ev_pos (by omega) ?_)))⟩
      rw [wrap_succ (by omega)]
      exact e
    · exact ⟨h, Ev.step (fun _ => rfl) (ev_pos (by omega) (ev_neg h4 (Ev.now _)))⟩
theorem l01New_some (l : List Int) (hl : l.length ≤ 1048576) : ∃ h, Ev (fun k => spec_l01New.f k l) (l, 0, h) := l01New_ev l hl _ 0 _ rfl (by omega)
/-- A cursor's byte: a byte; the cursor stays in its place or goes on. -/
theorem l01Byte_some (l : List Int) (i h : Int) (hi : 0 ≤ i) (hl : l.length ≤ 1048576) (h1 : i ≤ l.length) : ∃ b i' h', spec_l01Byte.f l i h = some (b, i', h') ∧ 0 ≤ b ∧ b ≤ 255 ∧ 0 ≤ i' ∧ i' ≤ l.length := by
  unfold spec_l01Byte.f
  by_cases h0 : i < (l.length : Int)
  · rw [if_pos h0, if_pos hi, wrap_in (n := i + 1) (by omega) (by omega)]
    exact ⟨_, _, _, rfl, (and255 _).1, (and255 _).2, by omega, by omega⟩
  · rw [if_neg h0]
    exact ⟨_, _, _, rfl, (and255 _).1, (and255 _).2, hi, h1⟩
theorem l01Below_some (l : List Int) (i h n : Int) (hi : 0 ≤ i) (hl : l.length ≤ 1048576) (h1 : i ≤ l.length) : ∃ b i' h', spec_l01Below.f l i h n = some (b, i', h') ∧ 0 ≤ b ∧ (0 < n → b < n) ∧ 0 ≤ i' ∧ i' ≤ l.length := by
  unfold spec_l01Below.f
  by_cases h0 : n ≤ 0
  · rw [if_pos h0]
    exact ⟨_, _, _, rfl, by omega, by omega, hi, h1⟩
  rw [if_neg h0]
  obtain ⟨b, i1, g1, e1, b0, b1, c0, c1⟩ := l01Byte_some l i h hi hl h1
  by_cases h2 : n ≤ 256
  · rw [if_pos h2, e1]
    simp only [Option.bind_some]
    rw [if_neg (by omega), Int.tmod_eq_emod_of_nonneg b0]
    exact ⟨_, _, _, rfl, Int.emod_nonneg _ (by omega), fun _ => Int.emod_lt_of_pos _ (by omega), c0, c1⟩
  · rw [if_neg h2]
    obtain ⟨x, i2, g2, e2, x0, x1, d0, d1⟩ := l01Byte_some l i1 g1 c0 hl c1
    obtain ⟨y, i3, g3, e3, y0, y1, f0, f1⟩ := l01Byte_some l i2 g2 d0 hl d1
    obtain ⟨z, i4, g4, e4, z0, z1, m0, m1⟩ := l01Byte_some l i3 g3 f0 hl f1
    rw [e1]
    simp only [Option.bind_some]
    rw [e2]
    simp only [Option.bind_some]
    rw [e3]
    simp only [Option.bind_some]
    rw [e4]
    simp only [Option.bind_some]
    rw [if_neg (by omega), wrap_in (n := b * 16777216) (by omega) (by omega), wrap_in (n := x * 65536) (by omega) (by omega), wrap_in (n := y * 256) (by omega) (by omega), wrap_in (n := b * 16777216 + x * 65536) (by omega) (by omega), wrap_in (n := b * 16777216 + x * 65536 + y * 256) (by omega) (by omega), wrap_in (by omega) (by omega), Int.tmod_eq_emod_of_nonneg (by omega)]
    exact ⟨_, _, _, rfl, Int.emod_nonneg _ (by omega), fun _ => Int.emod_lt_of_pos _ (by omega), m0, m1⟩

/-! ### spec_MakeBytes2 -/
theorem l01Bytes_l0 (l : List Int) (hl : l.length ≤ 1048576) : ∀ (n : Nat) (acc : List Int) (i h : Int), n ≤ 1048576 → Bytes acc → acc.length + n ≤ 4194304 → 0 ≤ i → i ≤ l.length → ∃ r i' h', Ev (fun k => spec_l01Bytes.l0 k acc (n : Int) l i h) (r, i', h') ∧ Bytes r ∧ r.length = acc.length + n ∧ 0 ≤ i' ∧ i' ≤ l.length := by
  intro n
  induction n with
  | zero =>
    intro acc i h hn hb ha hi h1
    exact ⟨acc, i, h, Ev.step (fun _ => rfl) (ev_neg (by omega) (Ev.now _)), hb, rfl, hi, h1⟩
  | succ n ih =>
    intro acc i h hn hb ha hi h1
    obtain ⟨b, i1, g1, e1, b0, b1, c0, c1⟩ := l01Byte_some l i h hi hl h1
    obtain ⟨r, i', h', e, hr, hlen, d0, d1⟩ := ih (acc ++ [b % 256]) i1 g1 (by omega) (hb.app (Bytes.one (by omega) (by omega))) (by simp; omega) c0 c1
    refine ⟨r, i', h', Ev.step (fun _ => rfl) (ev_pos (by omega) (ev_bind0 e1 (ev_pos (by omega) ?_))), hr, ?_, d0, d1⟩
    · rw [wrap_in (by omega) (by omega), show ((n + 1 : Nat) : Int) - 1 = (n : Int) by omega]
      exact e
    · rw [hlen]
      simp
      omega
theorem l01Bytes_some (l : List Int) (i h n : Int) (hl : l.length ≤ 1048576) (h0 : 0 ≤ n) (hn : n ≤ 1000) (hi : 0 ≤ i) (h1 : i ≤ l.length) : ∃ r i' h', Ev (fun k => spec_l01Bytes.f k l i h n) (r, i', h') ∧ Bytes r ∧ r.length ≤ n ∧ 0 ≤ i' ∧ i' ≤ l.length := by
  obtain ⟨b, i1, g1, e1, b0, b1, c0, c1⟩ := l01Below_some l i h (n + 1) hi hl h1
  obtain ⟨m, rfl⟩ := Int.eq_ofNat_of_zero_le b0
  have bm := b1 (by omega)
  obtain ⟨r, i', h', e, hr, hlen, d0, d1⟩ := l01Bytes_l0 l hl m [] i1 g1 (by omega) Bytes.nil (by simp; omega) c0 c1
  refine ⟨r, i', h', ?_, hr, by rw [hlen]; simp; omega, d0, d1⟩
  unfold spec_l01Bytes.f
  rw [wrap_in (by omega) (by omega)]
  exact ev_bind0 e1 e

/-! ### spec_MakeList -/
theorem l06List_l0 (l : List Int) (hl : l.length ≤ 1048576) : ∀ (n : Nat) (acc : List (List Int)) (i h : Int), n + acc.length ≤ 100 → (∀ r ∈ acc, Bytes r ∧ r.length ≤ 4) → 0 ≤ i → i ≤ l.length → ∃ r i' h', Ev (fun k => spec_l06List.l0 k acc (n : Int) l i h) (r, i', h') ∧ (∀ x ∈ r, Bytes x ∧ x.length ≤ 4) ∧ r.length = acc.length + n ∧ 0 ≤ i' ∧ i' ≤ l.length := by
  intro n
  induction n with
  | zero =>
    intro acc i h hn ha hi h1
    exact ⟨acc, i, h, Ev.step (fun _ => rfl) (ev_neg (by omega) (Ev.now _)), ha, rfl, hi, h1⟩
  | succ n ih =>
    intro acc i h hn ha hi h1
    obtain ⟨x, i1, h1', e1, b1, l1, p1, p2⟩ := l01Bytes_some l i h 4 hl (by omega) (by omega) hi h1
    obtain ⟨r, i2, h2, e2, b2, l2, p3, p4⟩ := ih (acc ++ [x]) i1 h1' (by simp; omega) (fun y hy => by
      rcases List.mem_append.1 hy with hy | hy
      · exact ha y hy
      · obtain rfl := List.mem_singleton.1 hy
        exact ⟨b1, by omega⟩) p1 p2
    refine ⟨r, i2, h2, Ev.step (fun _ => rfl) (ev_pos (by omega) (Ev.bind e1 (ev_pos (by omega) ?_))), b2, by rw [l2]; simp; omega, p3, p4⟩
    rw [show wrap64 (((n + 1 : Nat) : Int) - 1) = (n : Int) by rw [wrap_in (by omega) (by omega)]; omega]
    exact e2
theorem makeList_some (l : List Int) (hl : l.length ≤ 1048576) : ∃ r, Ev (fun k => spec_MakeList.f k l) r ∧ (∀ x ∈ r, Bytes x ∧ x.length ≤ 4) ∧ 1 ≤ r.length ∧ r.length ≤ 9 := by
  obtain ⟨h, e0⟩ := l01New_some l hl
  obtain ⟨b, i1, h1, e1, b0, b1, p1, p2⟩ := l01Below_some l 0 h 9 (by omega) hl (by omega)
  obtain ⟨n, rfl⟩ := Int.eq_ofNat_of_zero_le b0
  have hn := b1 (by omega)
  obtain ⟨r, i2, h2, e2, r1, r2, p3, p4⟩ := l06List_l0 l hl n [] i1 h1 (by simp; omega) (fun x hx => by cases hx) p1 p2
  obtain ⟨x, i3, h3, e3, x1, x2, p5, p6⟩ := l01Bytes_some l i2 h2 3 hl (by omega) (by omega) p3 p4
  have hrl : (r ++ [x]).length = n + 1 := by simp at r2 ⊢; omega
  obtain ⟨c, i4, h4, e4, _⟩ := l01Below_some l i3 h3 ((r ++ [x]).length : Int) p5 hl p6
  refine ⟨r ++ [x], ?_, fun y hy => ?_, by omega, by omega⟩
  · unfold spec_MakeList.f
    refine Ev.bind e0 ?_
    have e5 : Ev (fun k => spec_l06List.f k l 0 h 8) (r, i2, h2) := by
      unfold spec_l06List.f
      exact ev_bind0 (by rw [show wrap64 (8 + 1) = 9 from by unfold wrap64; omega]; exact e1) e2
    have e6 : Ev (fun k => spec_l08List.f k l 0 h) (r ++ [x], c, i4, h4) := by
      unfold spec_l08List.f
      exact Ev.bind e5 (Ev.bind e3 (ev_pos (by show r.length < _; simp at r2; omega) (ev_bind0 rfl (ev_bind0 e4 (Ev.now _)))))
    exact Ev.bind e6 (Ev.now _)
  · rcases List.mem_append.1 hy with hy | hy
    · exact r1 y hy
    · obtain rfl := List.mem_singleton.1 hy
      exact ⟨x1, by omega⟩

/-! ### impl_NodeHash -/
theorem impl_nodeHash (a b : List Int) (ha : a.length ≤ 2000000) (hb : b.length ≤ 2000000) (ga : Bytes a) (gb : Bytes b) : Ev (fun k => impl_NodeHash.f k a b) (nodeHash a b) := by
  unfold impl_NodeHash.f
  exact ev_bind0 rfl (ev_pos (by simp; omega) (ev_bind0 rfl (ev_pos (by simp; omega) (Ev.bind (impl_sha ([1] ++ a ++ b) (by simp; omega) (((Bytes.one (by omega) (by omega)).app ga).app gb)) (Ev.now _)))))

/-! ### impl_SplitAt -/
theorem split_ev (n : Int) (hn : n ≤ 9223372036854775807) : ∀ (d e : Nat) (x : Int), x = 2 ^ e → 1 ≤ x → x < n → n - x ≤ d → ∃ (r : Int) (e' : Nat), Ev (fun k => impl_SplitAt.l0 k n x) r ∧ r = 2 ^ e' ∧ 1 ≤ r ∧ r < n ∧ n ≤ 2 * r := by
  intro d
  induction d with
  | zero =>
    intro e x he h1 h2 hd
    omega
  | succ d ih =>
    intro e x he h1 h2 hd
    by_cases h : x < n - x
    · obtain ⟨r, e', hr, hp⟩ := ih (e + 1) (x * 2) (by rw [he, Int.pow_succ]) (by omega) (by omega) (by omega)
      refine ⟨r, e', Ev.step (fun _ => rfl) (ev_pos ?_ ?_), hp⟩
      · rw [wrap_in (by omega) (by omega)]
        exact h
      · rw [wrap_in (by omega) (by omega)]
        exact hr
    · refine ⟨x, e, Ev.step (fun _ => rfl) (ev_neg ?_ (ev_some rfl)), he, h1, h2, by omega⟩
      rw [wrap_in (by omega) (by omega)]
      omega
theorem splitAt_ev (n : Int) (h2 : 2 ≤ n) (hn : n ≤ 9223372036854775807) : ∃ (r : Int) (e : Nat), Ev (fun k => impl_SplitAt.f k n) r ∧ r = 2 ^ e ∧ 1 ≤ r ∧ r < n ∧ n ≤ 2 * r := by
  obtain ⟨r, e, hr, hp⟩ := split_ev n hn (n - 1).toNat 0 1 (by simp) (by omega) (by omega) (by omega)
  exact ⟨r, e, ev_neg (by omega) hr, hp⟩
theorem splitAt_some (n : Int) (hn : n ≤ 9223372036854775807) : ∃ r, Ev (fun k => impl_SplitAt.f k n) r := by
  by_cases h : n < 2
  · exact ⟨0, ev_pos h (ev_some rfl)⟩
  · obtain ⟨r, e, hr, _⟩ := splitAt_ev n (by omega) hn
    exact ⟨r, hr⟩

/-! ### impl_TreeRoot -/
theorem impl_treeRoot_d : ∀ (d : Nat) (l : List (List Int)), l.length ≤ d → l.length ≤ 1048576 → RowsOk l → Ev (fun k => impl_TreeRoot.f k l) (treeRoot l) := by
  intro d
  induction d with
  | zero =>
    intro l hd hl hr
    obtain rfl := List.eq_nil_of_length_eq_zero (show l.length = 0 by omega)
    rw [treeRoot_nil]
    exact Ev.step (fun _ => rfl) (ev_pos (by decide) (Ev.bind (impl_sha [] (by decide) Bytes.nil) (Ev.now _)))
  | succ d ih =>
    intro l hd hl hr
    by_cases h0 : l.length = 0
    · obtain rfl := List.eq_nil_of_length_eq_zero h0
      rw [treeRoot_nil]
      exact Ev.step (fun _ => rfl) (ev_pos (by decide) (Ev.bind (impl_sha [] (by decide) Bytes.nil) (Ev.now _)))
    by_cases h1 : l.length = 1
    · obtain ⟨x, rfl⟩ := List.length_eq_one_iff.1 h1
      rw [treeRoot_one]
      have hx := hr x (by simp)
      exact Ev.step (fun _ => rfl) (ev_neg (by simp) (ev_pos (by simp) (ev_pos (by simp) (Ev.bind (impl_leafHash x (by omega) hx.1) (Ev.now _)))))
    obtain ⟨r, e, hs, he, h2, h3, h4⟩ := splitAt_ev (l.length : Int) (by omega) (by omega)
    obtain ⟨s, rfl⟩ := Int.eq_ofNat_of_zero_le (show 0 ≤ r by omega)
    have hu := splitN_unique (n := l.length) (r := s) (e := e) (by exact_mod_cast he) (by omega) (by omega)
    rw [treeRoot_node (by omega), ← hu]
    refine Ev.step (fun _ => rfl) (ev_neg (by omega) (ev_neg (by omega) (Ev.bind hs (ev_pos (by omega) (ev_pos (by omega) ?_)))))
    rw [Int.toNat_natCast]
    have t1 := treeRoot_len (l.take s)
    have t2 := treeRoot_len (l.drop s)
    exact Ev.bind (ih (l.take s) (by simp; omega) (by simp; omega) (hr.take s)) (Ev.bind (ih (l.drop s) (by simp; omega) (by simp; omega) (hr.drop s)) (Ev.bind (impl_nodeHash _ _ (by omega) (by omega) t1.2 t2.2) (Ev.now _)))
theorem impl_treeRoot (l : List (List Int)) (hl : l.length ≤ 1048576) (hr : RowsOk l) : Ev (fun k => impl_TreeRoot.f k l) (treeRoot l) := impl_treeRoot_d l.length l (Nat.le_refl _) hl hr

attribute [local congr] bind_lazy ite_lazy
theorem sameBytes_refl (a : List Int) : impl_SameBytes.f a a = some true := by
  unfold impl_SameBytes.f
  simp
theorem within_ok (i n : Int) (h0 : 0 ≤ i) (h1 : i < n) (h2 : n ≤ 1048576) : impl_within.f i 0 (wrap64 (n - 1)) = some true := by
  unfold impl_within.f
  rw [if_pos h0, wrap_in (by omega) (by omega), decide_eq_true (by omega)]
theorem copy_some (l : List Int) (hl : l.length ≤ 1048576) : impl_copyBytes.f l = some l := by
  unfold impl_copyBytes.f
  simp only [Option.bind_some, List.nil_append, List.length_nil, Nat.zero_add]
  rw [if_pos (by omega)]
theorem areHashes_l0 (l : List (List Int)) (hl : l.length ≤ 1048576) (h : ∀ r ∈ l, r.length = 32) : ∀ (d i : Nat), i + d = l.length → Ev (fun k => impl_areHashes.l0 k l (l.length : Int) (i : Int)) true := by
  intro d
  induction d with
  | zero =>
    intro i hi
    exact Ev.step (fun _ => rfl) (ev_neg (by omega) (Ev.now _))
  | succ d ih =>
    intro i hi
    have e : (rd_L2 l (i : Int)).length = 32 := by
      simp only [rd_L2, Int.toNat_natCast]
      rw [List.getD_eq_getElem?_getD, List.getElem?_eq_getElem (by omega)]
      exact h _ (List.getElem_mem _)
    refine Ev.step (fun _ => rfl) (ev_pos (by omega) (ev_pos (by omega) (ev_pos (by omega) (ev_pos (by omega) ?_))))
    rw [wrap_succ (by omega)]
    exact ih (i + 1) (by omega)
theorem areHashes_ev (l : List (List Int)) (hl : l.length ≤ 1048576) (h : ∀ r ∈ l, r.length = 32) : Ev (fun k => impl_areHashes.f k l) true := by
  unfold impl_areHashes.f
  exact areHashes_l0 l hl h l.length 0 (by omega)
theorem last_get (p : List (List Int)) (x : List Int) : rd_L2 (p ++ [x]) (p.length : Int) = x := by
  simp [rd_L2]
theorem j0_false (i n r : Int) (h : Ev (fun k => (impl_SplitAt.f k n).bind fun t => (if i < t then ((impl_PathLen.f k i t).bind fun u => (some (wrap64 (1 + u)))) else ((impl_PathLen.f k (wrap64 (i - t)) (wrap64 (n - t))).bind fun u => (some (wrap64 (1 + u)))))) r) : Ev (fun k => impl_PathLen.j0 k i n (!true)) r := Ev.step (fun _ => rfl) h
theorem path_all : ∀ (d : Nat) (l : List (List Int)) (i : Nat) (hi : i < l.length), l.length ≤ d → l.length ≤ 1048576 → RowsOk l →
    ∃ p : List (List Int), Ev (fun k => impl_PathOf.f k l (i : Int)) (p, true) ∧ Ev (fun k => impl_PathLen.f k (i : Int) (l.length : Int)) (p.length : Int) ∧ Ev (fun k => impl_pathRoot.f k (leafHash l[i]) (i : Int) (l.length : Int) p) (treeRoot l) ∧ (∀ r ∈ p, r.length = 32) ∧ (∀ r ∈ p, Bytes r) ∧ p.length < l.length := by
  intro d
  induction d with
  | zero =>
    intro l i hi hd
    omega
  | succ d ih =>
    intro l i hi hd hl hr
    have hw := within_ok (i : Int) (l.length : Int) (by omega) (by omega) (by omega)
    by_cases h1 : l.length = 1
    · obtain ⟨x, rfl⟩ := List.length_eq_one_iff.1 h1
      obtain rfl : i = 0 := by simp at hi; omega
      refine ⟨[], Ev.step (fun _ => rfl) (ev_bind0 hw (ev_pos rfl (ev_pos (by simp) (Ev.now _)))), ?_, ?_, (fun r h => by cases h), (fun r h => by cases h), by simp⟩
      · exact Ev.step (f := fun k => impl_PathLen.j0 k ((0 : Nat) : Int) (([x] : List (List Int)).length : Int) true) (fun _ => rfl) (Ev.step (f := fun _ => some 0) (fun _ => rfl) (ev_some rfl))
      · rw [treeRoot_one]
        have hlen := leafHash_length x
        exact Ev.step (fun _ => rfl) (ev_pos (by simp) (ev_bind0 (copy_some _ (by simp; omega)) (Ev.now _)))
    obtain ⟨r, e, hs, he, h2, h3, h4⟩ := splitAt_ev (l.length : Int) (by omega) (by omega)
    obtain ⟨s, rfl⟩ := Int.eq_ofNat_of_zero_le (show 0 ≤ r by omega)
    have hu := splitN_unique (n := l.length) (r := s) (e := e) (by exact_mod_cast he) (by omega) (by omega)
    have tn := treeRoot_node (l := l) (by omega)
    rw [← hu] at tn
    have t1 := treeRoot_len (l.take s)
    have t2 := treeRoot_len (l.drop s)
    have r1 := impl_treeRoot (l.take s) (by simp; omega) (hr.take s)
    have r2 := impl_treeRoot (l.drop s) (by simp; omega) (hr.drop s)
    have lt : (l.take s).length = s := by simp; omega
    have ld : (l.drop s).length = l.length - s := by simp
    by_cases his : i < s
    · obtain ⟨p, e1, e2, e3, q1, q2, q3⟩ := ih (l.take s) i (by omega) (by omega) (by omega) (hr.take s)
      obtain ⟨x, hx⟩ : ∃ x, x = l[i] := ⟨_, rfl⟩
      have gx : (l.take s)[i]'(by omega) = x := by rw [hx]; simp
      rw [gx] at e3
      rw [← hx]
      rw [lt] at e2 e3 q3
      have ap : (p ++ [treeRoot (l.drop s)]).length = p.length + 1 := by simp
      have wl : wrap64 (((p ++ [treeRoot (l.drop s)]).length : Int) - 1) = (p.length : Int) := by rw [ap, wrap_in (by omega) (by omega)]; omega
      refine ⟨p ++ [treeRoot (l.drop s)], ?_, ?_, ?_, ?_, ?_, by omega⟩
      · refine Ev.step (fun _ => rfl) (ev_bind0 hw (ev_pos rfl (ev_neg (by omega) (Ev.bind hs (ev_pos (by omega) (ev_pos (by omega) (ev_pos (by omega) ?_)))))))
        rw [Int.toNat_natCast]
        exact Ev.bind e1 (Ev.bind r2 (ev_pos (by show p.length < _; omega) (Ev.now _)))
      · refine Ev.step (fun _ => rfl) (ev_neg (by omega) (ev_neg (by omega) (ev_bind0 hw (j0_false _ _ _ (Ev.bind hs (ev_pos (by omega) (Ev.bind e2 (ev_some ?_))))))))
        rw [ap, wrap_in (by omega) (by omega)]
        omega
      · rw [tn]
        refine Ev.step (fun _ => rfl) (ev_neg (by omega) (Ev.bind hs (ev_pos (by omega) ?_)))
        rw [wl, Int.toNat_natCast, last_get, List.take_left' rfl]
        exact ev_pos (by omega) (ev_pos (by omega) (Ev.bind e3 (ev_pos (by omega) (Ev.bind (impl_nodeHash _ _ (by omega) (by omega) t1.2 t2.2) (Ev.now _)))))
      · intro x hx
        rcases List.mem_append.1 hx with hx | hx
        · exact q1 x hx
        · obtain rfl := List.mem_singleton.1 hx
          exact t2.1
      · intro x hx
        rcases List.mem_append.1 hx with hx | hx
        · exact q2 x hx
        · obtain rfl := List.mem_singleton.1 hx
          exact t2.2
    · obtain ⟨p, e1, e2, e3, q1, q2, q3⟩ := ih (l.drop s) (i - s) (by omega) (by omega) (by omega) (hr.drop s)
      have gi : (l.drop s)[i - s]'(by omega) = l[i] := by
        rw [List.getElem_drop]
        congr 1
        omega
      rw [gi] at e3
      have wi : wrap64 ((i : Int) - (s : Int)) = ((i - s : Nat) : Int) := by rw [wrap_in (by omega) (by omega)]; omega
      have wn : wrap64 ((l.length : Int) - (s : Int)) = ((l.drop s).length : Int) := by rw [wrap_in (by omega) (by omega)]; omega
      have ap : (p ++ [treeRoot (l.take s)]).length = p.length + 1 := by simp
      have wl : wrap64 (((p ++ [treeRoot (l.take s)]).length : Int) - 1) = (p.length : Int) := by rw [ap, wrap_in (by omega) (by omega)]; omega
      refine ⟨p ++ [treeRoot (l.take s)], ?_, ?_, ?_, ?_, ?_, by omega⟩
      · refine Ev.step (fun _ => rfl) (ev_bind0 hw (ev_pos rfl (ev_neg (by omega) (Ev.bind hs (ev_neg (by omega) (ev_pos (by omega) (ev_pos (by omega) ?_)))))))
        rw [Int.toNat_natCast, wi]
        exact Ev.bind e1 (Ev.bind r1 (ev_pos (by show p.length < _; omega) (Ev.now _)))
      · refine Ev.step (fun _ => rfl) (ev_neg (by omega) (ev_neg (by omega) (ev_bind0 hw (j0_false _ _ _ (Ev.bind hs (ev_neg (by omega) ?_))))))
        rw [wi, wn]
        refine Ev.bind e2 (ev_some ?_)
        rw [ap, wrap_in (by omega) (by omega)]
        omega
      · rw [tn]
        refine Ev.step (fun _ => rfl) (ev_neg (by omega) (Ev.bind hs (ev_neg (by omega) ?_)))
        rw [wl, wi, wn, Int.toNat_natCast, last_get, List.take_left' rfl]
        exact ev_pos (by omega) (ev_pos (by omega) (ev_pos (by omega) (Ev.bind e3 (Ev.bind (impl_nodeHash _ _ (by omega) (by omega) t1.2 t2.2) (Ev.now _)))))
      · intro x hx
        rcases List.mem_append.1 hx with hx | hx
        · exact q1 x hx
        · obtain rfl := List.mem_singleton.1 hx
          exact t1.1
      · intro x hx
        rcases List.mem_append.1 hx with hx | hx
        · exact q2 x hx
        · obtain rfl := List.mem_singleton.1 hx
          exact t1.2
theorem pathRoot_ev (l : List (List Int)) (i : Nat) (hi : i < l.length) (hl : l.length ≤ 1048576) (p : List (List Int)) (e2 : Ev (fun k => impl_PathLen.f k (i : Int) (l.length : Int)) (p.length : Int)) (e3 : Ev (fun k => impl_pathRoot.f k (leafHash l[i]) (i : Int) (l.length : Int) p) (treeRoot l)) (q1 : ∀ r ∈ p, r.length = 32) (q3 : p.length < l.length) :
    Ev (fun k => impl_PathRoot.f k (leafHash l[i]) (i : Int) (l.length : Int) p) (treeRoot l, true) := by
  unfold impl_PathRoot.f
  exact Ev.bind (areHashes_ev [leafHash l[i]] (by simp) (fun r h => by obtain rfl := List.mem_singleton.1 h; exact leafHash_length _)) (ev_pos rfl (ev_neg (by omega) (ev_neg (by omega) (ev_bind0 (within_ok (i : Int) (l.length : Int) (by omega) (by omega) (by omega)) (ev_pos rfl (Ev.bind e2 (ev_pos rfl (Ev.bind (areHashes_ev p (by omega) q1) (ev_pos rfl (Ev.bind e3 (Ev.now _)))))))))))
theorem fnPath_l0 (l : List (List Int)) (h9 : l.length ≤ 9) (h1 : 1 ≤ l.length) (hr : RowsOk l) : ∀ (d i : Nat), i + d = l.length → Ev (fun k => laws_FnPath.l0 k l (treeRoot l) l (l.length : Int) (i : Int)) true := by
  intro d
  induction d with
  | zero =>
    intro i hi
    refine Ev.step (fun _ => rfl) (ev_neg (by omega) (Ev.bind (a := ([], false)) ?_ (ev_some rfl)))
    have hw : impl_within.f (l.length : Int) 0 (wrap64 ((l.length : Int) - 1)) = some false := by
      unfold impl_within.f
      rw [if_pos (by omega), wrap_in (by omega) (by omega), decide_eq_false (by omega)]
    exact Ev.step (fun _ => rfl) (ev_bind0 hw (ev_neg (by decide) (Ev.now _)))
  | succ d ih =>
    intro i hi
    obtain ⟨p, e1, e2, e3, q1, q2, q3⟩ := path_all l.length l i (by omega) (Nat.le_refl _) (by omega) hr
    have ep := pathRoot_ev l i (by omega) (by omega) p e2 e3 q1 q3
    have hx := hr l[i] (List.getElem_mem _)
    have gx : rd_L2 l (i : Int) = l[i] := by
      simp only [rd_L2, Int.toNat_natCast]
      rw [List.getD_eq_getElem?_getD, List.getElem?_eq_getElem (by omega)]
      rfl
    have el := impl_leafHash l[i] (by omega) hx.1
    have eo : Ev (fun k => impl_PathOk.f k l[i] (i : Int) (l.length : Int) p (treeRoot l)) true := by
      unfold impl_PathOk.f
      exact Ev.bind el (Ev.bind ep (ev_pos rfl (ev_bind0 (sameBytes_refl _) (Ev.now _))))
    refine Ev.step (fun _ => rfl) (ev_pos (by omega) (ev_pos (by omega) (ev_pos (by omega) ?_)))
    rw [gx]
    refine Ev.bind e1 (Ev.bind el (Ev.bind ep (ev_pos rfl (ev_pos rfl (Ev.bind e2 (ev_pos rfl (ev_bind0 (sameBytes_refl _) (ev_pos rfl (Ev.bind eo (ev_pos rfl ?_))))))))))
    rw [wrap_succ (by omega)]
    exact ih (i + 1) (by omega)
theorem FnPath : laws_FnPath.Pure := by
  intro l _ _ _
  by_cases g : (l.length : Int) > 1048576
  · exact ⟨0, by simp only [laws_FnPath.f, if_pos g]⟩
  obtain ⟨t, e0, hr, h1, h9⟩ := makeList_some l (by omega)
  have hok : RowsOk t := fun r h => ⟨(hr r h).1, by have := (hr r h).2; omega⟩
  refine Ev.rounds (g := fun k => laws_FnPath.f k l) (r := true) ?_
  unfold laws_FnPath.f
  exact ev_neg g (Ev.bind e0 (Ev.bind (impl_treeRoot t (by omega) hok) (fnPath_l0 t h9 h1 hok t.length 0 (by omega))))

end Go.Proofs.Ytjfhbmbiegccnaa.Pure
