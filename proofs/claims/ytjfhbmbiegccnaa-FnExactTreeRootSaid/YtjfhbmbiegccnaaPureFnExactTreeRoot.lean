/- The root of a tree: the law's function answers true for every argument (what its calls answer, for the walk). Conditions: those of the printed statement alone. -/
import Derived.Test.YtjfhbmbiegccnaaQFnExactTreeRootx5
import Derived.Test.YtjfhbmbiegccnaaLib
import Derived.Test.YtjfhbmbiegccnaaLibNum
import Derived.Test.YtjfhbmbiegccnaaLibTree
import Derived.Test.YtjfhbmbiegccnaaLibSha
import Derived.Test.YtjfhbmbiegccnaaLibHash
import Derived.Test.YtjfhbmbiegccnaaLibMac
set_option linter.unusedVariables false
set_option linter.unusedSimpArgs false
set_option maxRecDepth 4000
namespace Go.Proofs.Ytjfhbmbiegccnaa.Pure
open Go.RowKit Go.Proofs.Ytjfhbmbiegccnaa.QFnExactTreeRoot Go.Proofs.YtjfhbmbiegccnaaW.PrintWords Go.Proofs.YtjfhbmbiegccnaaW.PrintLast Go.Proofs.YtjfhbmbiegccnaaW.PrintMore Go.Proofs.Ytjfhbmbiegccnaa.Lib

/-! ### laws_eqByteS -/
theorem eqByteS_l0 (a b : List Int) (hl : a.length ≤ 9000000000000000000) (hab : a.length = b.length) : ∀ (d i : Nat), a.length - i = d → i ≤ a.length → a.take i = b.take i → Ev (fun k => laws_eqByteS.l0 k a b (i : Int)) (decide (a = b)) := by
  intro d
  induction d with
  | zero =>
    intro i hd hi ht
    refine Ev.step (fun _ => rfl) (ev_neg (by omega) (ev_some ?_))
    rw [List.take_of_length_le (by omega), List.take_of_length_le (by omega)] at ht
    simp [ht]
  | succ d ih =>
    intro i hd hi ht
    refine Ev.step (fun _ => rfl) (ev_pos (by omega) (ev_pos (by omega) (ev_pos (by omega) ?_)))
    have ha : i < a.length := by omega
    have hb : i < b.length := by omega
    rw [rd_at ha, rd_at hb]
    by_cases e : a[i] = b[i]
    · refine ev_pos e ?_
      rw [wrap_succ (by omega)]
      exact ih (i + 1) (by omega) (by omega) (by rw [List.take_succ_eq_append_getElem ha, List.take_succ_eq_append_getElem hb, ht, e])
    · refine ev_neg e (ev_some ?_)
      have : a ≠ b := fun h => e (by subst h; rfl)
      simp [this]
theorem eqByteS_ev (a b : List Int) (hl : a.length ≤ 9000000000000000000) : Ev (fun k => laws_eqByteS.f k a b) (decide (a = b)) := by
  unfold laws_eqByteS.f
  by_cases h : a.length = b.length
  · refine ev_pos (by omega) ?_
    exact eqByteS_l0 a b hl h _ 0 rfl (by omega) (by simp)
  · refine ev_neg (by omega) (ev_some ?_)
    have : a ≠ b := fun e => h (by rw [e])
    simp [this]
theorem eqByteS_same (a : List Int) (hl : a.length ≤ 9000000000000000000) : Ev (fun k => laws_eqByteS.f k a a) true := ev_eq (by simp) (eqByteS_ev a a hl)

/-! ### laws_markByteS -/
theorem markByteS_l0 (a : Int) (n : Nat) (h0 : 0 ≤ a) (h1 : a + n ≤ 9000000000000000000) : ∀ (d i : Nat) (ys : List Int), n - i = d → i ≤ n → ys.length = n → ys.take i = (marks a n).take i → Ev (fun k => laws_markByteS.l0 k ys (a + (i : Int)) (i : Int)) (a + (n : Int), marks a n) := by
  intro d
  induction d with
  | zero =>
    intro i ys hd hi hy ht
    refine Ev.step (fun _ => rfl) (ev_neg (by omega) (ev_some ?_))
    rw [List.take_of_length_le (by omega), List.take_of_length_le (by rw [marks_length]; omega)] at ht
    rw [ht, show i = n by omega]
  | succ d ih =>
    intro i ys hd hi hy ht
    refine Ev.step (fun _ => rfl) (ev_pos (by omega) (ev_pos (by omega) ?_))
    have hm : i < (marks a n).length := by rw [marks_length]; omega
    have e : (a + (i : Int)) % 256 = (marks a n)[i] := by rw [← rd_at hm, marks_at a n (by omega)]
    rw [wrap_succ (by omega), wrap_in (by omega) (by omega), show a + (i : Int) + 1 = a + ((i + 1 : Nat) : Int) by omega, e, Int.toNat_natCast]
    exact ih (i + 1) _ (by omega) (by omega) (by simpa using hy) (set_take_succ ys (marks a n) i (by omega) hm ht)
theorem markByteS_ev (l : List Int) (a : Int) (h0 : 0 ≤ a) (h1 : a + l.length ≤ 9000000000000000000) : Ev (fun k => laws_markByteS.f k l a) (a + (l.length : Int), marks a l.length) := by
  unfold laws_markByteS.f
  have := markByteS_l0 a l.length h0 h1 _ 0 l rfl (by omega) rfl (by simp)
  simpa using this

/-! ### laws_heldByteS -/
theorem heldByteS_l0 (a : Int) (n : Nat) (h0 : 0 ≤ a) (h1 : a + n ≤ 9000000000000000000) : ∀ (d i : Nat), n - i = d → i ≤ n → Ev (fun k => laws_heldByteS.l0 k (marks a n) (a + (i : Int)) (i : Int)) (a + (n : Int)) := by
  intro d
  induction d with
  | zero =>
    intro i hd hi
    refine Ev.step (fun _ => rfl) (ev_neg (by rw [marks_length]; omega) (ev_some ?_))
    rw [show i = n by omega]
  | succ d ih =>
    intro i hd hi
    refine Ev.step (fun _ => rfl) (ev_pos (by rw [marks_length]; omega) (ev_pos (by omega) (ev_pos (marks_at a n (by omega)) ?_)))
    rw [wrap_succ (by omega), wrap_in (by omega) (by omega), show a + (i : Int) + 1 = a + ((i + 1 : Nat) : Int) by omega]
    exact ih (i + 1) (by omega) (by omega)
theorem heldByteS_ev (a : Int) (n : Nat) (h0 : 0 ≤ a) (h1 : a + n ≤ 9000000000000000000) : Ev (fun k => laws_heldByteS.f k (marks a n) a) (a + (n : Int)) := by
  unfold laws_heldByteS.f
  have := heldByteS_l0 a n h0 h1 _ 0 rfl (by omega)
  simpa using this

/-! ### impl_ShaPad -/
theorem impl_shaPad_l1 (l : List Int) (hl : l.length ≤ 4194304) : ∀ (j : Nat) (acc : List Int), j ≤ 8 → acc.length + j ≤ 140737488355000 → Ev (fun k => impl_ShaPad.l1 k l acc ((j : Int) - 1)) (acc ++ beB (8 * l.length) j) := by
  intro j
  induction j with
  | zero =>
    intro acc hj ha
    exact Ev.step (fun _ => rfl) (ev_neg (by omega) (ev_some (by simp [beB])))
  | succ j ih =>
    intro acc hj ha
    rw [show ((j + 1 : Nat) : Int) - 1 = (j : Int) by omega]
    refine Ev.step (fun _ => rfl) (ev_pos (by omega) (ev_pos (by rw [wrap_in (by omega) (by omega)]; omega) (ev_pos (by omega) ?_)))
    rw [wrap_in (n := 8 * (j : Int)) (by omega) (by omega), wrap_in (n := 8 * (l.length : Int)) (by omega) (by omega), shr_i64 _ _ (by omega) (by omega), show (8 * (j : Int)).toNat = 8 * j by omega, wrap_in (n := (j : Int) - 1) (by omega) (by omega)]
    have e : 8 * (l.length : Int) / 2 ^ (8 * j) % 256 = ((8 * l.length / 256 ^ j % 256 : Nat) : Int) := by
      rw [← pow256]
      simp
    rw [e]
    have := ih (acc ++ [((8 * l.length / 256 ^ j % 256 : Nat) : Int)]) (by omega) (by simp; omega)
    simpa [beB] using this
theorem impl_shaPad_l0 (l : List Int) (hl : l.length ≤ 4194304) : ∀ (d : Nat) (acc : List Int), (acc.length + d) % 64 = 56 → d < 64 → acc.length + d ≤ 140737488354000 → Ev (fun k => impl_ShaPad.l0 k l acc) (acc ++ List.replicate d 0 ++ beB (8 * l.length) 8) := by
  intro d
  induction d with
  | zero =>
    intro acc h0 h1 ha
    refine Ev.step (fun _ => rfl) (ev_pos (by omega) ?_)
    have := impl_shaPad_l1 l hl 8 acc (by omega) (by omega)
    simpa using this
  | succ d ih =>
    intro acc h0 h1 ha
    refine Ev.step (fun _ => rfl) (ev_neg (by omega) (ev_pos (by omega) ?_))
    have hl1 : (acc ++ [0]).length = acc.length + 1 := by simp
    have := ih (acc ++ [0]) (by rw [hl1, ← h0]; congr 1; omega) (by omega) (by rw [hl1]; omega)
    simpa [List.replicate_succ] using this
theorem impl_shaPad (l : List Int) (hl : l.length ≤ 4194304) : Ev (fun k => impl_ShaPad.f k l) (shaPad l) := by
  unfold impl_ShaPad.f
  have hc : impl_copyBytes.f l = some l := by
    unfold impl_copyBytes.f
    simp only [Option.bind_some, List.nil_append, List.length_nil, Nat.zero_add]
    rw [if_pos (by omega)]
  refine ev_bind0 hc (ev_pos (by omega) ?_)
  exact impl_shaPad_l0 l hl (missing l.length) (l ++ [128]) (by simp only [missing, List.length_append, List.length_cons, List.length_nil]; omega) (by unfold missing; omega) (by rw [List.length_append]; unfold missing; simp only [List.length_cons, List.length_nil]; omega)

/-! ### impl_Sha -/
theorem impl_sha_l1 (h : List Int) (hh : h.length = 8) : ∀ (d i : Nat) (acc : List Int), i + d = 8 → acc.length = 4 * i → Ev (fun k => impl_Sha.l1 k acc h 8 (i : Int)) (acc ++ shaOut (h.drop i)) := by
  intro d
  induction d with
  | zero =>
    intro i acc hi ha
    refine Ev.step (fun _ => rfl) (ev_neg (by omega) (ev_some ?_))
    rw [List.drop_of_length_le (by omega)]
    simp [shaOut]
  | succ d ih =>
    intro i acc hi ha
    refine Ev.step (fun _ => rfl) (ev_pos (by omega) (ev_pos (by omega) (ev_pos (by omega) (ev_bind0 rfl (ev_pos (by simp; omega) ?_)))))
    rw [wrap_succ (by omega)]
    have := ih (i + 1) (acc ++ word4 (rd h (i : Int))) (by omega) (by simp [word4]; omega)
    rw [rd_at (show i < h.length by omega)] at this ⊢
    rw [List.drop_eq_getElem_cons (show i < h.length by omega), shaOut_cons, ← List.append_assoc]
    exact this
theorem impl_sha_l0 (p : List Int) (hp : p.length ≤ 4194304) (hb : Bytes p) : ∀ (n i : Nat) (h : List Int), Words h → 64 * i + n * 64 = p.length → Ev (fun k => impl_Sha.l0 k h p ((64 * i : Nat) : Int)) (shaOut (shaBlocks n (p.drop (64 * i)) h)) := by
  intro n
  induction n with
  | zero =>
    intro i h hh hi
    refine Ev.step (fun _ => rfl) (ev_neg (by omega) ?_)
    rw [hh.1]
    exact impl_sha_l1 h hh.1 8 0 [] rfl rfl
  | succ n ih =>
    intro i h hh hi
    have e1 : wrap64 (((64 * i : Nat) : Int) + 64) = ((64 * (i + 1) : Nat) : Int) := by unfold wrap64; omega
    have e2 : (p.take (64 * (i + 1))).drop (64 * i) = (p.drop (64 * i)).take 64 := by
      rw [List.drop_take]
      congr 1
      omega
    have e3 : p.drop (64 * (i + 1)) = (p.drop (64 * i)).drop 64 := by
      rw [List.drop_drop]
      congr 1
    refine Ev.step (fun _ => rfl) ?_
    simp only [impl_Sha.l0, e1, Int.toNat_natCast, e2]
    refine ev_pos (by omega) (ev_pos (by omega) (ev_pos (by omega) (ev_pos (by omega) ?_)))
    refine ev_bind0 (x := ShaBase.blockOf h ((p.drop (64 * i)).take 64)) (by unfold impl_ShaBlock.f; exact if_pos (List.all_eq_true.2 (fun x hx => by have := hb x (List.mem_of_mem_drop (List.mem_of_mem_take hx)); simp [this]))) ?_
    have := ih (i + 1) _ (block_words hh (l := (p.drop (64 * i)).take 64) (by rw [List.length_take, List.length_drop]; omega)) (by omega)
    rw [e3] at this
    exact this
theorem impl_sha (l : List Int) (hl : l.length ≤ 4194000) (hb : Bytes l) : Ev (fun k => impl_Sha.f k l) (sha l) := by
  have hn := shaPad_length l
  have hm := shaPad_mod l
  unfold impl_Sha.f
  refine ev_bind0 rfl (Ev.bind (impl_shaPad l (by omega)) ?_)
  have := impl_sha_l0 (shaPad l) (by omega) (shaPad_bytes l hb) ((shaPad l).length / 64) 0 shaInit shaInit_words (by omega)
  exact this

/-! ### impl_LeafHash -/
theorem impl_leafHash (l : List Int) (hl : l.length ≤ 4190000) (hb : Bytes l) : Ev (fun k => impl_LeafHash.f k l) (leafHash l) := by
  unfold impl_LeafHash.f
  exact ev_bind0 rfl (ev_pos (by simp; omega) (Ev.bind (impl_sha ([0] ++ l) (by simp; omega) ((Bytes.one (by omega) (by omega)).app hb)) (Ev.now _)))

/-! ### impl_NodeHash -/
theorem impl_nodeHash (a b : List Int) (ha : a.length ≤ 2000000) (hb : b.length ≤ 2000000) (ga : Bytes a) (gb : Bytes b) : Ev (fun k => impl_NodeHash.f k a b) (nodeHash a b) := by
  unfold impl_NodeHash.f
  exact ev_bind0 rfl (ev_pos (by simp; omega) (ev_bind0 rfl (ev_pos (by simp; omega) (Ev.bind (impl_sha ([1] ++ a ++ b) (by simp; omega) (((Bytes.one (by omega) (by omega)).app ga).app gb)) (Ev.now _)))))

/-! ### impl_SplitAt -/
theorem split_ev (n : Int) (hn : n ≤ 9223372036854775807) : ∀ (d e : Nat) (x : Int), x = 2 ^ e → 1 ≤ x → x < n → n - x ≤ d → ∃ (r : Int) (e' : Nat), Ev (fun k => impl_SplitAt.l0 k n x) r ∧ r = 2 ^ e' ∧ 1 ≤ r ∧ r < n ∧ n ≤ 2 * r := by
  intro d
  induction d with
  | zero =>
    intro e x he h1 h2 hd
    omega
  | succ d ih =>
    intro e x he h1 h2 hd
    by_cases h : x < n - x
    · obtain ⟨r, e', hr, hp⟩ := ih (e + 1) (x * 2) (by rw [he, Int.pow_succ]) (by omega) (by omega) (by omega)
      refine ⟨r, e', Ev.step (fun _ => rfl) (ev_pos ?_ ?_), hp⟩
      · rw [wrap_in (by omega) (by omega)]
        exact h
      · rw [wrap_in (by omega) (by omega)]
        exact hr
    · refine ⟨x, e, Ev.step (fun _ => rfl) (ev_neg ?_ (ev_some rfl)), he, h1, h2, by omega⟩
      rw [wrap_in (by omega) (by omega)]
      omega
theorem splitAt_ev (n : Int) (h2 : 2 ≤ n) (hn : n ≤ 9223372036854775807) : ∃ (r : Int) (e : Nat), Ev (fun k => impl_SplitAt.f k n) r ∧ r = 2 ^ e ∧ 1 ≤ r ∧ r < n ∧ n ≤ 2 * r := by
  obtain ⟨r, e, hr, hp⟩ := split_ev n hn (n - 1).toNat 0 1 (by simp) (by omega) (by omega) (by omega)
  exact ⟨r, e, ev_neg (by omega) hr, hp⟩
theorem splitAt_some (n : Int) (hn : n ≤ 9223372036854775807) : ∃ r, Ev (fun k => impl_SplitAt.f k n) r := by
  by_cases h : n < 2
  · exact ⟨0, ev_pos h (ev_some rfl)⟩
  · obtain ⟨r, e, hr, _⟩ := splitAt_ev n (by omega) hn
    exact ⟨r, hr⟩

/-! ### impl_TreeRoot -/
theorem impl_treeRoot_d : ∀ (d : Nat) (l : List (List Int)), l.length ≤ d → l.length ≤ 1048576 → RowsOk l → Ev (fun k => impl_TreeRoot.f k l) (treeRoot l) := by
  intro d
  induction d with
  | zero =>
    intro l hd hl hr
    obtain rfl := List.eq_nil_of_length_eq_zero (show l.length = 0 by omega)
    rw [treeRoot_nil]
    exact Ev.step (fun _ => rfl) (ev_pos (by decide) (Ev.bind (impl_sha [] (by decide) Bytes.nil) (Ev.now _)))
  | succ d ih =>
    intro l hd hl hr
    by_cases h0 : l.length = 0
    · obtain rfl := List.eq_nil_of_length_eq_zero h0
      rw [treeRoot_nil]
      exact Ev.step (fun _ => rfl) (ev_pos (by decide) (Ev.bind (impl_sha [] (by decide) Bytes.nil) (Ev.now _)))
    by_cases h1 : l.length = 1
    · obtain ⟨x, rfl⟩ := List.length_eq_one_iff.1 h1
      rw [treeRoot_one]
      have hx := hr x (by simp)
      exact Ev.step (fun _ => rfl) (ev_neg (by simp) (ev_pos (by simp) (ev_pos (by simp) (Ev.bind (impl_leafHash x (by omega) hx.1) (Ev.now _)))))
    obtain ⟨r, e, hs, he, h2, h3, h4⟩ := splitAt_ev (l.length : Int) (by omega) (by omega)
    obtain ⟨s, rfl⟩ := Int.eq_ofNat_of_zero_le (show 0 ≤ r by omega)
    have hu := splitN_unique (n := l.length) (r := s) (e := e) (by exact_mod_cast he) (by omega) (by omega)
    rw [treeRoot_node (by omega), ← hu]
    refine Ev.step (fun _ => rfl) (ev_neg (by omega) (ev_neg (by omega) (Ev.bind hs (ev_pos (by omega) (ev_pos (by omega) ?_)))))
    rw [Int.toNat_natCast]
    have t1 := treeRoot_len (l.take s)
    have t2 := treeRoot_len (l.drop s)
    exact Ev.bind (ih (l.take s) (by simp; omega) (by simp; omega) (hr.take s)) (Ev.bind (ih (l.drop s) (by simp; omega) (by simp; omega) (hr.drop s)) (Ev.bind (impl_nodeHash _ _ (by omega) (by omega) t1.2 t2.2) (Ev.now _)))
theorem impl_treeRoot (l : List (List Int)) (hl : l.length ≤ 1048576) (hr : RowsOk l) : Ev (fun k => impl_TreeRoot.f k l) (treeRoot l) := impl_treeRoot_d l.length l (Nat.le_refl _) hl hr

/-! ### laws_szByteSS -/
/-- What the size gate of a slice of slices lets through. -/
theorem szByteSS_l0 (l : List (List Int)) (hl : l.length ≤ 9223372036854775807) (hr : ∀ r ∈ l, r.length ≤ 9223372036854775807) : ∀ (d i : Nat) (a : Int), l.length - i = d → i ≤ l.length → 0 ≤ a → a ≤ 1048576 → ∃ r, Ev (fun k => laws_szByteSS.l0 k l a (i : Int)) r ∧ r ≤ 1048576 ∧ (0 ≤ r → ∀ x ∈ l.drop i, x.length ≤ 1048576) := by
  intro d
  induction d with
  | zero =>
    intro i a hd hi a0 a1
    refine ⟨a, Ev.step (fun _ => rfl) (ev_neg (by omega) (Ev.now _)), a1, fun _ x hx => ?_⟩
    rw [List.drop_of_length_le (by omega)] at hx
    cases hx
  | succ d ih =>
    intro i a hd hi a0 a1
    have hi' : i < l.length := by omega
    have hlen := hr l[i] (List.getElem_mem hi')
    have e : rd_L2 l (i : Int) = l[i] := by
      unfold rd_L2
      rw [Int.toNat_natCast, List.getD_eq_getElem?_getD, List.getElem?_eq_getElem hi']
      rfl
    by_cases h : (l[i].length : Int) ≤ a
    · obtain ⟨r, e2, r1, q⟩ := ih (i + 1) (a - l[i].length) (by omega) (by omega) (by omega) (by omega)
      refine ⟨r, Ev.step (fun _ => rfl) (ev_pos (by omega) (ev_pos (by omega) ?_)), r1, fun h0 x hx => ?_⟩
      · rw [e]
        refine ev_bind0 (x := a - l[i].length) ?_ (ev_neg (by omega) ?_)
        · unfold laws_szByteS.f
          rw [wrap_in (n := a - l[i].length) (by omega) (by omega), if_neg (by omega)]
        · rw [wrap_in (n := (i : Int) + 1) (by omega) (by omega)]
          exact e2
      · rw [List.drop_eq_getElem_cons hi'] at hx
        rcases List.mem_cons.1 hx with rfl | hx
        · omega
        · exact q h0 x hx
    · refine ⟨-1, Ev.step (fun _ => rfl) (ev_pos (by omega) (ev_pos (by omega) ?_)), by omega, fun h0 => absurd h0 (by omega)⟩
      rw [e]
      refine ev_bind0 (x := -1) ?_ (ev_pos (by omega) (Ev.now _))
      unfold laws_szByteS.f
      rw [wrap_in (n := a - l[i].length) (by omega) (by omega), if_pos (by omega)]
theorem szByteSS_ev (l : List (List Int)) (hl : l.length ≤ 9223372036854775807) (hr : ∀ r ∈ l, r.length ≤ 9223372036854775807) (a : Int) (a0 : 0 ≤ a) (a1 : a ≤ 1048576) : ∃ r, Ev (fun k => laws_szByteSS.f k l a) r ∧ r ≤ 1048576 ∧ (0 ≤ r → l.length ≤ 1048576 ∧ ∀ x ∈ l, x.length ≤ 1048576) := by
  by_cases h : (l.length : Int) ≤ a
  · obtain ⟨r, e, r1, q⟩ := szByteSS_l0 l hl hr _ 0 (a - l.length) rfl (by omega) (by omega) (by omega)
    refine ⟨r, ?_, r1, fun h0 => ⟨by omega, by have := q h0; rw [List.drop_zero] at this; exact this⟩⟩
    unfold laws_szByteSS.f
    rw [wrap_in (n := a - l.length) (by omega) (by omega)]
    exact ev_neg (by omega) e
  · refine ⟨-1, ?_, by omega, fun h0 => absurd h0 (by omega)⟩
    unfold laws_szByteSS.f
    rw [wrap_in (n := a - l.length) (by omega) (by omega)]
    exact ev_pos (by omega) (Ev.now _)

/-! ### spec_ShaPad -/
theorem spec_shaPad_l1 (n : Nat) (hl : n ≤ 4194304 * 8) : ∀ (j : Nat) (acc : List Int), j ≤ 8 → acc.length + j ≤ 140737488355000 → Ev (fun k => spec_ShaPad.l1 k acc (n : Int) ((j : Int) - 1)) (acc ++ beB n j) := by
  intro j
  induction j with
  | zero =>
    intro acc hj ha
    exact Ev.step (fun _ => rfl) (ev_neg (by omega) (ev_some (by simp [beB])))
  | succ j ih =>
    intro acc hj ha
    rw [show ((j + 1 : Nat) : Int) - 1 = (j : Int) by omega]
    refine Ev.step (fun _ => rfl) (ev_pos (by omega) (ev_pos (by rw [wrap_in (by omega) (by omega)]; omega) (ev_pos (by omega) ?_)))
    rw [wrap_in (n := 8 * (j : Int)) (by omega) (by omega), shr_i64 _ _ (by omega) (by omega), show (8 * (j : Int)).toNat = 8 * j by omega, wrap_in (n := (j : Int) - 1) (by omega) (by omega)]
    have e : (n : Int) / 2 ^ (8 * j) % 256 = ((n / 256 ^ j % 256 : Nat) : Int) := by
      rw [← pow256]
      simp
    rw [e]
    have := ih (acc ++ [((n / 256 ^ j % 256 : Nat) : Int)]) (by omega) (by simp; omega)
    simpa [beB] using this
theorem spec_shaPad_l0 (l : List Int) (hl : l.length ≤ 4194304) : ∀ (d : Nat) (acc : List Int), (acc.length + d) % 64 = 56 → d < 64 → acc.length + d ≤ 140737488354000 → Ev (fun k => spec_ShaPad.l0 k l acc) (acc ++ List.replicate d 0 ++ beB (8 * l.length) 8) := by
  intro d
  induction d with
  | zero =>
    intro acc h0 h1 ha
    refine Ev.step (fun _ => rfl) (ev_pos (by omega) ?_)
    rw [wrap_in (n := 8 * (l.length : Int)) (by omega) (by omega), show 8 * (l.length : Int) = ((8 * l.length : Nat) : Int) by omega]
    have := spec_shaPad_l1 (8 * l.length) (by omega) 8 acc (by omega) (by omega)
    simpa using this
  | succ d ih =>
    intro acc h0 h1 ha
    refine Ev.step (fun _ => rfl) (ev_neg (by omega) (ev_pos (by omega) ?_))
    have hl1 : (acc ++ [0]).length = acc.length + 1 := by simp
    have := ih (acc ++ [0]) (by rw [hl1, ← h0]; congr 1; omega) (by omega) (by rw [hl1]; omega)
    simpa [List.replicate_succ] using this
theorem spec_shaPad (l : List Int) (hl : l.length ≤ 4194304) : Ev (fun k => spec_ShaPad.f k l) (shaPad l) := by
  unfold spec_ShaPad.f
  have hc : spec_l01Copy.f l = some l := by
    unfold spec_l01Copy.f
    simp only [Option.bind_some, List.nil_append, List.length_nil, Nat.zero_add]
    rw [if_pos (by omega)]
  refine ev_bind0 hc (ev_pos (by omega) ?_)
  exact spec_shaPad_l0 l hl (missing l.length) (l ++ [128]) (by simp only [missing, List.length_append, List.length_cons, List.length_nil]; omega) (by unfold missing; omega) (by rw [List.length_append]; unfold missing; simp only [List.length_cons, List.length_nil]; omega)

/-! ### spec_Sha -/
theorem spec_sha_l1 (h : List Int) (hh : h.length = 8) : ∀ (d i : Nat) (acc : List Int), i + d = 8 → acc.length = 4 * i → Ev (fun k => spec_Sha.l1 k acc h 8 (i : Int)) (acc ++ shaOut (h.drop i)) := by
  intro d
  induction d with
  | zero =>
    intro i acc hi ha
    refine Ev.step (fun _ => rfl) (ev_neg (by omega) (ev_some ?_))
    rw [List.drop_of_length_le (by omega)]
    simp [shaOut]
  | succ d ih =>
    intro i acc hi ha
    refine Ev.step (fun _ => rfl) (ev_pos (by omega) (ev_pos (by omega) (ev_pos (by omega) (ev_bind0 rfl (ev_pos (by simp; omega) ?_)))))
    rw [wrap_succ (by omega)]
    have := ih (i + 1) (acc ++ word4 (rd h (i : Int))) (by omega) (by simp [word4]; omega)
    rw [rd_at (show i < h.length by omega)] at this ⊢
    rw [List.drop_eq_getElem_cons (show i < h.length by omega), shaOut_cons, ← List.append_assoc]
    exact this
theorem spec_sha_l0 (p : List Int) (hp : p.length ≤ 4194304) (hb : Bytes p) : ∀ (n i : Nat) (h : List Int), Words h → 64 * i + n * 64 = p.length → Ev (fun k => spec_Sha.l0 k h p ((64 * i : Nat) : Int)) (shaOut (shaBlocks n (p.drop (64 * i)) h)) := by
  intro n
  induction n with
  | zero =>
    intro i h hh hi
    refine Ev.step (fun _ => rfl) (ev_neg (by omega) ?_)
    rw [hh.1]
    exact spec_sha_l1 h hh.1 8 0 [] rfl rfl
  | succ n ih =>
    intro i h hh hi
    have e1 : wrap64 (((64 * i : Nat) : Int) + 64) = ((64 * (i + 1) : Nat) : Int) := by unfold wrap64; omega
    have e2 : (p.take (64 * (i + 1))).drop (64 * i) = (p.drop (64 * i)).take 64 := by
      rw [List.drop_take]
      congr 1
      omega
    have e3 : p.drop (64 * (i + 1)) = (p.drop (64 * i)).drop 64 := by
      rw [List.drop_drop]
      congr 1
    refine Ev.step (fun _ => rfl) ?_
    simp only [spec_Sha.l0, e1, Int.toNat_natCast, e2]
    refine ev_pos (by omega) (ev_pos (by omega) (ev_pos (by omega) (ev_pos (by omega) ?_)))
    refine ev_bind0 (x := ShaBase.blockOf h ((p.drop (64 * i)).take 64)) (by rfl) ?_
    have := ih (i + 1) _ (block_words hh (l := (p.drop (64 * i)).take 64) (by rw [List.length_take, List.length_drop]; omega)) (by omega)
    rw [e3] at this
    exact this
theorem spec_sha (l : List Int) (hl : l.length ≤ 4194000) (hb : Bytes l) : Ev (fun k => spec_Sha.f k l) (sha l) := by
  have hn := shaPad_length l
  have hm := shaPad_mod l
  unfold spec_Sha.f
  refine ev_bind0 rfl (Ev.bind (spec_shaPad l (by omega)) ?_)
  have := spec_sha_l0 (shaPad l) (by omega) (shaPad_bytes l hb) ((shaPad l).length / 64) 0 shaInit shaInit_words (by omega)
  exact this

/-! ### spec_LeafHash -/
theorem spec_leafHash (l : List Int) (hl : l.length ≤ 4190000) (hb : Bytes l) : Ev (fun k => spec_LeafHash.f k l) (leafHash l) := by
  unfold spec_LeafHash.f
  exact ev_bind0 rfl (ev_pos (by simp; omega) (Ev.bind (spec_sha ([0] ++ l) (by simp; omega) ((Bytes.one (by omega) (by omega)).app hb)) (Ev.now _)))

/-! ### spec_NodeHash -/
theorem spec_nodeHash (a b : List Int) (ha : a.length ≤ 2000000) (hb : b.length ≤ 2000000) (ga : Bytes a) (gb : Bytes b) : Ev (fun k => spec_NodeHash.f k a b) (nodeHash a b) := by
  unfold spec_NodeHash.f
  exact ev_bind0 rfl (ev_pos (by simp; omega) (ev_bind0 rfl (ev_pos (by simp; omega) (Ev.bind (spec_sha ([1] ++ a ++ b) (by simp; omega) (((Bytes.one (by omega) (by omega)).app ga).app gb)) (Ev.now _)))))

/-! ### splitAt_same -/
theorem split_same (k : Nat) : ∀ (n x : Int), spec_SplitAt.l0 k n x = impl_SplitAt.l0 k n x := by
  induction k with
  | zero => intro n x; rfl
  | succ k ih => intro n x; simp only [spec_SplitAt.l0, impl_SplitAt.l0, ih, Int.mul_comm 2 x]
theorem splitAt_same (k : Nat) (n : Int) : spec_SplitAt.f k n = impl_SplitAt.f k n := by
  unfold spec_SplitAt.f impl_SplitAt.f
  rw [split_same]

/-! ### spec_TreeRoot -/
theorem spec_treeRoot_d : ∀ (d : Nat) (l : List (List Int)), l.length ≤ d → l.length ≤ 1048576 → RowsOk l → Ev (fun k => spec_TreeRoot.f k l) (treeRoot l) := by
  intro d
  induction d with
  | zero =>
    intro l hd hl hr
    obtain rfl := List.eq_nil_of_length_eq_zero (show l.length = 0 by omega)
    rw [treeRoot_nil]
    exact Ev.step (fun _ => rfl) (ev_pos (by decide) (Ev.bind (spec_sha [] (by decide) Bytes.nil) (Ev.now _)))
  | succ d ih =>
    intro l hd hl hr
    by_cases h0 : l.length = 0
    · obtain rfl := List.eq_nil_of_length_eq_zero h0
      rw [treeRoot_nil]
      exact Ev.step (fun _ => rfl) (ev_pos (by decide) (Ev.bind (spec_sha [] (by decide) Bytes.nil) (Ev.now _)))
    by_cases h1 : l.length = 1
    · obtain ⟨x, rfl⟩ := List.length_eq_one_iff.1 h1
      rw [treeRoot_one]
      have hx := hr x (by simp)
      exact Ev.step (fun _ => rfl) (ev_neg (by simp) (ev_pos (by simp) (ev_pos (by simp) (Ev.bind (spec_leafHash x (by omega) hx.1) (Ev.now _)))))
    obtain ⟨r, e, hs, he, h2, h3, h4⟩ := splitAt_ev (l.length : Int) (by omega) (by omega)
    obtain ⟨s, rfl⟩ := Int.eq_ofNat_of_zero_le (show 0 ≤ r by omega)
    have hu := splitN_unique (n := l.length) (r := s) (e := e) (by exact_mod_cast he) (by omega) (by omega)
    rw [treeRoot_node (by omega), ← hu]
    refine Ev.step (fun _ => rfl) (ev_neg (by omega) (ev_neg (by omega) (Ev.bind (Ev.congr (fun k => splitAt_same k _) hs) (ev_pos (by omega) (ev_pos (by omega) ?_)))))
    rw [Int.toNat_natCast]
    have t1 := treeRoot_len (l.take s)
    have t2 := treeRoot_len (l.drop s)
    exact Ev.bind (ih (l.take s) (by simp; omega) (by simp; omega) (hr.take s)) (Ev.bind (ih (l.drop s) (by simp; omega) (by simp; omega) (hr.drop s)) (Ev.bind (spec_nodeHash _ _ (by omega) (by omega) t1.2 t2.2) (Ev.now _)))
theorem spec_treeRoot (l : List (List Int)) (hl : l.length ≤ 1048576) (hr : RowsOk l) : Ev (fun k => spec_TreeRoot.f k l) (treeRoot l) := spec_treeRoot_d l.length l (Nat.le_refl _) hl hr

/-! ### laws_toByteS -/
theorem toByteS_l0 (l : List Int) (hl : l.length ≤ 1048576) : ∀ (d i : Nat) (ys : List Int), l.length - i = d → i ≤ l.length → ys.length = l.length → ys.take i = l.take i → Ev (fun k => laws_toByteS.l0 k l ys (i : Int)) l := by
  intro d
  induction d with
  | zero =>
    intro i ys hd hi hy ht
    refine Ev.step (fun _ => rfl) (ev_neg (by omega) (ev_some ?_))
    rw [List.take_of_length_le (by omega), List.take_of_length_le (by omega)] at ht
    exact ht
  | succ d ih =>
    intro i ys hd hi hy ht
    refine Ev.step (fun _ => rfl) (ev_pos (by omega) (ev_pos (by omega) (ev_pos (by omega) ?_)))
    rw [wrap_succ (by omega), rd_at (show i < l.length by omega), Int.toNat_natCast]
    exact ih (i + 1) _ (by omega) (by omega) (by simpa using hy) (set_take_succ ys l i (by omega) (by omega) ht)
theorem toByteS_ev (l : List Int) (hl : l.length ≤ 1048576) : Ev (fun k => laws_toByteS.f k l) l := by
  unfold laws_toByteS.f
  refine ev_pos (by omega) (ev_pos (by omega) ?_)
  rw [Int.toNat_natCast]
  exact toByteS_l0 l hl _ 0 _ rfl (by omega) (by simp) (by simp)

/-! ### laws_toByteSS -/
theorem rd_L1_at (l : List (List Int)) (i : Nat) (h : i < l.length) : rd_L2 l (i : Int) = l[i] := by
  unfold rd_L2
  rw [Int.toNat_natCast, List.getD_eq_getElem?_getD, List.getElem?_eq_getElem h]
  rfl
theorem toByteSS_l0 (l : List (List Int)) (hl : l.length ≤ 1048576) (hr : ∀ r ∈ l, r.length ≤ 1048576) : ∀ (d i : Nat) (ys : List (List Int)), l.length - i = d → i ≤ l.length → ys.length = l.length → ys.take i = l.take i → Ev (fun k => laws_toByteSS.l0 k l ys (i : Int)) l := by
  intro d
  induction d with
  | zero =>
    intro i ys hd hi hy ht
    refine Ev.step (fun _ => rfl) (ev_neg (by omega) (ev_some ?_))
    rw [List.take_of_length_le (by omega), List.take_of_length_le (by omega)] at ht
    exact ht
  | succ d ih =>
    intro i ys hd hi hy ht
    have hi' : i < l.length := by omega
    refine Ev.step (fun _ => rfl) (ev_pos (by omega) (ev_pos (by omega) ?_))
    rw [rd_L1_at l i hi']
    refine Ev.bind (toByteS_ev l[i] (hr _ (List.getElem_mem hi'))) (ev_pos (by omega) ?_)
    rw [wrap_succ (by omega), Int.toNat_natCast]
    exact ih (i + 1) _ (by omega) (by omega) (by simpa using hy) (set_take_succ ys l i (by omega) (by omega) ht)
theorem toByteSS_ev (l : List (List Int)) (hl : l.length ≤ 1048576) (hr : ∀ r ∈ l, r.length ≤ 1048576) : Ev (fun k => laws_toByteSS.f k l) l := by
  unfold laws_toByteSS.f
  refine ev_pos (by omega) (ev_pos (by omega) ?_)
  rw [Int.toNat_natCast]
  exact toByteSS_l0 l hl hr _ 0 _ rfl (by omega) (by simp) (by simp)

/-! ### laws_eqByteSS -/
theorem eqByteSS_l0 (a : List (List Int)) (hl : a.length ≤ 1048576) (hr : ∀ r ∈ a, r.length ≤ 1048576) : ∀ (d i : Nat), a.length - i = d → i ≤ a.length → Ev (fun k => laws_eqByteSS.l0 k a a (i : Int)) true := by
  intro d
  induction d with
  | zero =>
    intro i hd hi
    exact Ev.step (fun _ => rfl) (ev_neg (by omega) (Ev.now _))
  | succ d ih =>
    intro i hd hi
    have ha : i < a.length := by omega
    have hx := hr a[i] (List.getElem_mem ha)
    refine Ev.step (fun _ => rfl) (ev_pos (by omega) (ev_pos (by omega) (ev_pos (by omega) ?_)))
    rw [rd_L1_at a i ha, wrap_succ (by omega)]
    exact Ev.bind (eqByteS_same a[i] (by omega)) (ev_pos rfl (ih (i + 1) (by omega) (by omega)))
theorem eqByteSS_same (a : List (List Int)) (hl : a.length ≤ 1048576) (hr : ∀ r ∈ a, r.length ≤ 1048576) : Ev (fun k => laws_eqByteSS.f k a a) true := by
  unfold laws_eqByteSS.f
  exact ev_pos rfl (eqByteSS_l0 a hl hr _ 0 rfl (by omega))

attribute [local congr] bind_lazy ite_lazy
theorem markSS_ev : ∀ (l : List (List Int)) (a : Int), 0 ≤ a → (∀ r ∈ l, r.length ≤ 1048576) → a + (l.length : Int) * 1048576 ≤ 9000000000000000000 → ∃ m l1, Ev (fun k => laws_markByteSS.f k l a) (m, l1) ∧ a ≤ m := by
  intro l
  induction l with
  | nil => exact fun a _ _ _ => ⟨a, [], Ev.now _, Int.le_refl _⟩
  | cons x xs ih =>
    intro a h0 hr hs
    have hx := hr x List.mem_cons_self
    simp only [List.length_cons] at hs
    obtain ⟨m, l1, e, hm⟩ := ih (a + (x.length : Int)) (by omega) (fun r h => hr r (List.mem_cons_of_mem _ h)) (by omega)
    exact ⟨m, marks a x.length :: l1, Ev.bind (markByteS_ev x a h0 (by omega)) (Ev.bind e (Ev.now _)), by omega⟩
theorem FnExactTreeRoot (l : List (List Int)) (hl : l.length ≤ 9223372036854775807) (hr : ∀ r ∈ l, r.length ≤ 9223372036854775807 ∧ ∀ n ∈ r, (Lit.int .u8 n).wf = true) :
    (∃ k s, laws_szByteSS.f k l 1048576 = some s ∧ s < 0) ∨
    ∃ k s t m l1 q t1, laws_szByteSS.f k l 1048576 = some s ∧ ¬ s < 0 ∧ laws_toByteSS.f k l = some l ∧ spec_TreeRoot.f k l = some t ∧ impl_TreeRoot.f k l = some t ∧ laws_eqByteS.f k t t = some true ∧ laws_eqByteSS.f k l l = some true ∧ laws_markByteSS.f k l 1 = some (m, l1) ∧ ¬ m < 0 ∧ laws_markByteS.f k t 1 = some (q, t1) ∧ ¬ q < 0 ∧ laws_heldByteS.f k t1 1 = some q ∧ t1.length = t.length := by
  obtain ⟨s, ⟨K1, e1⟩, s1, s2⟩ := szByteSS_ev l hl (fun r h => (hr r h).1) 1048576 (by omega) (by omega)
  by_cases hs : s < 0
  · exact .inl ⟨K1, s, e1 K1 (Nat.le_refl _), hs⟩
  obtain ⟨la, qa⟩ := s2 (by omega)
  have hk : RowsOk l := fun r h => ⟨bytes_of_wf (hr r h).2, qa r h⟩
  have tl := treeRoot_len l
  obtain ⟨K2, e2⟩ := toByteSS_ev l la qa
  obtain ⟨K3, e3⟩ := spec_treeRoot l la hk
  obtain ⟨K4, e4⟩ := impl_treeRoot l la hk
  obtain ⟨K5, e5⟩ := eqByteS_same (treeRoot l) (by omega)
  obtain ⟨K6, e6⟩ := eqByteSS_same l la qa
  obtain ⟨m, l1, ⟨K7, e7⟩, hm⟩ := markSS_ev l 1 (by omega) qa (by omega)
  obtain ⟨K8, e8⟩ := markByteS_ev (treeRoot l) 1 (by omega) (by omega)
  obtain ⟨K9, e9⟩ := heldByteS_ev 1 (treeRoot l).length (by omega) (by omega)
  have hb : ∀ i ∈ [K1, K2, K3, K4, K5, K6, K7, K8, K9], i ≤ K1 + K2 + K3 + K4 + K5 + K6 + K7 + K8 + K9 := by simp; omega
  refine .inr ⟨K1 + K2 + K3 + K4 + K5 + K6 + K7 + K8 + K9, s, treeRoot l, m, l1, 1 + ((treeRoot l).length : Int), marks 1 (treeRoot l).length, e1 _ (by omega), hs, e2 _ (by omega), e3 _ (by omega), e4 _ (by omega), e5 _ (by omega), e6 _ (by omega), e7 _ (by omega), by omega, e8 _ (by omega), by omega, e9 _ (by omega), by simp [marks]⟩

end Go.Proofs.Ytjfhbmbiegccnaa.Pure
