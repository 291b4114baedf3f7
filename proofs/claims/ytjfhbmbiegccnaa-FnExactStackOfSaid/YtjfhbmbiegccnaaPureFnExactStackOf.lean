/- The stack of leaves: the law's function answers true for every argument (what its calls answer, for the walk). Conditions: those of the printed statement alone. -/
import Derived.Test.YtjfhbmbiegccnaaQFnExactStackOfx11
import Derived.Test.YtjfhbmbiegccnaaLib
import Derived.Test.YtjfhbmbiegccnaaLibNum
import Derived.Test.YtjfhbmbiegccnaaLibTree
import Derived.Test.YtjfhbmbiegccnaaLibSha
import Derived.Test.YtjfhbmbiegccnaaLibHash
import Derived.Test.YtjfhbmbiegccnaaLibMac
set_option linter.unusedVariables false
set_option linter.unusedSimpArgs false
set_option maxRecDepth 4000
namespace Go.Proofs.Ytjfhbmbiegccnaa.Pure
open Go.RowKit Go.Proofs.Ytjfhbmbiegccnaa.QFnExactStackOf Go.Proofs.YtjfhbmbiegccnaaW.PrintWords Go.Proofs.YtjfhbmbiegccnaaW.PrintLast Go.Proofs.YtjfhbmbiegccnaaW.PrintMore Go.Proofs.Ytjfhbmbiegccnaa.Lib

/-! ### impl_ShaPad -/
theorem impl_shaPad_l1 (l : List Int) (hl : l.length ≤ 4194304) : ∀ (j : Nat) (acc : List Int), j ≤ 8 → acc.length + j ≤ 140737488355000 → Ev (fun k => impl_ShaPad.l1 k l acc ((j : Int) - 1)) (acc ++ beB (8 * l.length) j) := by
 intro j
 induction j with
 | zero =>
  intro acc hj ha
  exact Ev.step (fun _ => rfl) (ev_neg (by omega) (ev_some (by simp [beB])))
 | succ j ih =>
  intro acc hj ha
  rw [show ((j + 1 : Nat) : Int) - 1 = (j : Int) by omega]
  refine Ev.step (fun _ => rfl) (ev_pos (by omega) (ev_pos (by rw [wrap_in (by omega) (by omega)]; omega) (ev_pos (by omega) ?_)))
  rw [wrap_in (n := 8 * (j : Int)) (by omega) (by omega), wrap_in (n := 8 * (l.length : Int)) (by omega) (by omega), shr_i64 _ _ (by omega) (by omega), show (8 * (j : Int)).toNat = 8 * j by omega, wrap_in (n := (j : Int) - 1) (by omega) (by omega)]
  have e : 8 * (l.length : Int) / 2 ^ (8 * j) % 256 = ((8 * l.length / 256 ^ j % 256 : Nat) : Int) := by
   rw [← pow256]
   simp
  rw [e]
  have := ih (acc ++ [((8 * l.length / 256 ^ j % 256 : Nat) : Int)]) (by omega) (by simp; omega)
  simpa [beB] using this
theorem impl_shaPad_l0 (l : List Int) (hl : l.length ≤ 4194304) : ∀ (d : Nat) (acc : List Int), (acc.length + d) % 64 = 56 → d < 64 → acc.length + d ≤ 140737488354000 → Ev (fun k => impl_ShaPad.l0 k l acc) (acc ++ List.replicate d 0 ++ beB (8 * l.length) 8) := by
 intro d
 induction d with
 | zero =>
  intro acc h0 h1 ha
  refine Ev.step (fun _ => rfl) (ev_pos (by omega) ?_)
  have := impl_shaPad_l1 l hl 8 acc (by omega) (by omega)
  simpa using this
 | succ d ih =>
  intro acc h0 h1 ha
  refine Ev.step (fun _ => rfl) (ev_neg (by omega) (ev_pos (by omega) ?_))
  have hl1 : (acc ++ [0]).length = acc.length + 1 := by simp
  have := ih (acc ++ [0]) (by rw [hl1, ← h0]; congr 1; omega) (by omega) (by rw [hl1]; omega)
  simpa [List.replicate_succ] using this
theorem impl_shaPad (l : List Int) (hl : l.length ≤ 4194304) : Ev (fun k => impl_ShaPad.f k l) (shaPad l) := by
 unfold impl_ShaPad.f
 have hc : impl_copyBytes.f l = some l := by
  unfold impl_copyBytes.f
  simp only [Option.bind_some, List.nil_append, List.length_nil, Nat.zero_add]
  rw [if_pos (by omega)]
 refine ev_bind0 hc (ev_pos (by omega) ?_)
 exact impl_shaPad_l0 l hl (missing l.length) (l ++ [128]) (by simp only [missing, List.length_append, List.length_cons, List.length_nil]; omega) (by unfold missing; omega) (by rw [List.length_append]; unfold missing; simp only [List.length_cons, List.length_nil]; omega)

/-! ### impl_Sha -/
theorem impl_sha_l1 (h : List Int) (hh : h.length = 8) : ∀ (d i : Nat) (acc : List Int), i + d = 8 → acc.length = 4 * i → Ev (fun k => impl_Sha.l1 k acc h 8 (i : Int)) (acc ++ shaOut (h.drop i)) := by
 intro d
 induction d with
 | zero =>
  intro i acc hi ha
  refine Ev.step (fun _ => rfl) (ev_neg (by omega) (ev_some ?_))
  rw [List.drop_of_length_le (by omega)]
  simp [shaOut]
 | succ d ih =>
  intro i acc hi ha
  refine Ev.step (fun _ => rfl) (ev_pos (by omega) (ev_pos (by omega) (ev_pos (by omega) (ev_bind0 rfl (ev_pos (by simp; omega) ?_)))))
  rw [wrap_succ (by omega)]
  have := ih (i + 1) (acc ++ word4 (rd h (i : Int))) (by omega) (by simp [word4]; omega)
  rw [rd_at (show i < h.length by omega)] at this ⊢
  rw [List.drop_eq_getElem_cons (show i < h.length by omega), shaOut_cons, ← List.append_assoc]
  exact this
theorem impl_sha_l0 (p : List Int) (hp : p.length ≤ 4194304) (hb : Bytes p) : ∀ (n i : Nat) (h : List Int), Words h → 64 * i + n * 64 = p.length → Ev (fun k => impl_Sha.l0 k h p ((64 * i : Nat) : Int)) (shaOut (shaBlocks n (p.drop (64 * i)) h)) := by
 intro n
 induction n with
 | zero =>
  intro i h hh hi
  refine Ev.step (fun _ => rfl) (ev_neg (by omega) ?_)
  rw [hh.1]
  exact impl_sha_l1 h hh.1 8 0 [] rfl rfl
 | succ n ih =>
  intro i h hh hi
  have e1 : wrap64 (((64 * i : Nat) : Int) + 64) = ((64 * (i + 1) : Nat) : Int) := by unfold wrap64; omega
  have e2 : (p.take (64 * (i + 1))).drop (64 * i) = (p.drop (64 * i)).take 64 := by
   rw [List.drop_take]
   congr 1
   omega
  have e3 : p.drop (64 * (i + 1)) = (p.drop (64 * i)).drop 64 := by
   rw [List.drop_drop]
   congr 1
  refine Ev.step (fun _ => rfl) ?_
  simp only [impl_Sha.l0, e1, Int.toNat_natCast, e2]
  refine ev_pos (by omega) (ev_pos (by omega) (ev_pos (by omega) (ev_pos (by omega) ?_)))
  refine ev_bind0 (x := ShaBase.blockOf h ((p.drop (64 * i)).take 64)) (by unfold impl_ShaBlock.f; exact if_pos (List.all_eq_true.2 (fun x hx => by have := hb x (List.mem_of_mem_drop (List.mem_of_mem_take hx)); simp [this]))) ?_
  have := ih (i + 1) _ (block_words hh (l := (p.drop (64 * i)).take 64) (by rw [List.length_take, List.length_drop]; omega)) (by omega)
  rw [e3] at this
  exact this
theorem impl_sha (l : List Int) (hl : l.length ≤ 4194000) (hb : Bytes l) : Ev (fun k => impl_Sha.f k l) (sha l) := by
 have hn := shaPad_length l
 have hm := shaPad_mod l
 unfold impl_Sha.f
 refine ev_bind0 rfl (Ev.bind (impl_shaPad l (by omega)) ?_)
 have := impl_sha_l0 (shaPad l) (by omega) (shaPad_bytes l hb) ((shaPad l).length / 64) 0 shaInit shaInit_words (by omega)
 exact this

/-! ### impl_LeafHash -/
theorem impl_leafHash (l : List Int) (hl : l.length ≤ 4190000) (hb : Bytes l) : Ev (fun k => impl_LeafHash.f k l) (leafHash l) := by
 unfold impl_LeafHash.f
 exact ev_bind0 rfl (ev_pos (by simp; omega) (Ev.bind (impl_sha ([0] ++ l) (by simp; omega) ((Bytes.one (by omega) (by omega)).app hb)) (Ev.now _)))

/-! ### impl_NodeHash -/
theorem impl_nodeHash (a b : List Int) (ha : a.length ≤ 2000000) (hb : b.length ≤ 2000000) (ga : Bytes a) (gb : Bytes b) : Ev (fun k => impl_NodeHash.f k a b) (nodeHash a b) := by
 unfold impl_NodeHash.f
 exact ev_bind0 rfl (ev_pos (by simp; omega) (ev_bind0 rfl (ev_pos (by simp; omega) (Ev.bind (impl_sha ([1] ++ a ++ b) (by simp; omega) (((Bytes.one (by omega) (by omega)).app ga).app gb)) (Ev.now _)))))

/-! ### laws_szByteSS -/
/-- What the size gate of a slice of slices lets through. -/
theorem szByteSS_l0 (l : List (List Int)) (hl : l.length ≤ 9223372036854775807) (hr : ∀ r ∈ l, r.length ≤ 9223372036854775807) : ∀ (d i : Nat) (a : Int), l.length - i = d → i ≤ l.length → 0 ≤ a → a ≤ 1048576 → ∃ r, Ev (fun k => laws_szByteSS.l0 k l a (i : Int)) r ∧ r ≤ 1048576 ∧ (0 ≤ r → ∀ x ∈ l.drop i, x.length ≤ 1048576) := by
 intro d
 induction d with
 | zero =>
  intro i a hd hi a0 a1
  refine ⟨a, Ev.step (fun _ => rfl) (ev_neg (by omega) (Ev.now _)), a1, fun _ x hx => ?_⟩
  rw [List.drop_of_length_le (by omega)] at hx
  cases hx
 | succ d ih =>
  intro i a hd hi a0 a1
  have hi' : i < l.length := by omega
  have hlen := hr l[i] (List.getElem_mem hi')
  have e : rd_L2 l (i : Int) = l[i] := by
   unfold rd_L2
   rw [Int.toNat_natCast, List.getD_eq_getElem?_getD, List.getElem?_eq_getElem hi']
   rfl
  by_cases h : (l[i].length : Int) ≤ a
  ·
   obtain ⟨r, e2, r1, q⟩ := ih (i + 1) (a - l[i].length) (by omega) (by omega) (by omega) (by omega)
   refine ⟨r, Ev.step (fun _ => rfl) (ev_pos (by omega) (ev_pos (by omega) ?_)), r1, fun h0 x hx => ?_⟩
   ·
    rw [e]
    refine ev_bind0 (x := a - l[i].length) ?_ (ev_neg (by omega) ?_)
    ·
     unfold laws_szByteS.f
     rw [wrap_in (n := a - l[i].length) (by omega) (by omega), if_neg (by omega)]
    ·
     rw [wrap_in (n := (i : Int) + 1) (by omega) (by omega)]
     exact e2
   ·
    rw [List.drop_eq_getElem_cons hi'] at hx
    rcases List.mem_cons.1 hx with rfl | hx
    ·
     omega
    ·
     exact q h0 x hx
  ·
   refine ⟨-1, Ev.step (fun _ => rfl) (ev_pos (by omega) (ev_pos (by omega) ?_)), by omega, fun h0 => absurd h0 (by omega)⟩
   rw [e]
   refine ev_bind0 (x := -1) ?_ (ev_pos (by omega) (Ev.now _))
   unfold laws_szByteS.f
   rw [wrap_in (n := a - l[i].length) (by omega) (by omega), if_pos (by omega)]
theorem szByteSS_ev (l : List (List Int)) (hl : l.length ≤ 9223372036854775807) (hr : ∀ r ∈ l, r.length ≤ 9223372036854775807) (a : Int) (a0 : 0 ≤ a) (a1 : a ≤ 1048576) : ∃ r, Ev (fun k => laws_szByteSS.f k l a) r ∧ r ≤ 1048576 ∧ (0 ≤ r → l.length ≤ 1048576 ∧ ∀ x ∈ l, x.length ≤ 1048576) := by
 by_cases h : (l.length : Int) ≤ a
 ·
  obtain ⟨r, e, r1, q⟩ := szByteSS_l0 l hl hr _ 0 (a - l.length) rfl (by omega) (by omega) (by omega)
  refine ⟨r, ?_, r1, fun h0 => ⟨by omega, by have := q h0; rw [List.drop_zero] at this; exact this⟩⟩
  unfold laws_szByteSS.f
  rw [wrap_in (n := a - l.length) (by omega) (by omega)]
  exact ev_neg (by omega) e
 ·
  refine ⟨-1, ?_, by omega, fun h0 => absurd h0 (by omega)⟩
  unfold laws_szByteSS.f
  rw [wrap_in (n := a - l.length) (by omega) (by omega)]
  exact ev_pos (by omega) (Ev.now _)

/-! ### laws_toByteS -/
theorem toByteS_l0 (l : List Int) (hl : l.length ≤ 1048576) : ∀ (d i : Nat) (ys : List Int), l.length - i = d → i ≤ l.length → ys.length = l.length → ys.take i = l.take i → Ev (fun k => laws_toByteS.l0 k l ys (i : Int)) l := by
 intro d
 induction d with
 | zero =>
  intro i ys hd hi hy ht
  refine Ev.step (fun _ => rfl) (ev_neg (by omega) (ev_some ?_))
  rw [List.take_of_length_le (by omega), List.take_of_length_le (by omega)] at ht
  exact ht
 | succ d ih =>
  intro i ys hd hi hy ht
  refine Ev.step (fun _ => rfl) (ev_pos (by omega) (ev_pos (by omega) (ev_pos (by omega) ?_)))
  rw [wrap_succ (by omega), rd_at (show i < l.length by omega), Int.toNat_natCast]
  exact ih (i + 1) _ (by omega) (by omega) (by simpa using hy) (set_take_succ ys l i (by omega) (by omega) ht)
theorem toByteS_ev (l : List Int) (hl : l.length ≤ 1048576) : Ev (fun k => laws_toByteS.f k l) l := by
 unfold laws_toByteS.f
 refine ev_pos (by omega) (ev_pos (by omega) ?_)
 rw [Int.toNat_natCast]
 exact toByteS_l0 l hl _ 0 _ rfl (by omega) (by simp) (by simp)

/-! ### laws_toByteSS -/
theorem rd_L1_at (l : List (List Int)) (i : Nat) (h : i < l.length) : rd_L2 l (i : Int) = l[i] := by
 unfold rd_L2
 rw [Int.toNat_natCast, List.getD_eq_getElem?_getD, List.getElem?_eq_getElem h]
 rfl
theorem toByteSS_l0 (l : List (List Int)) (hl : l.length ≤ 1048576) (hr : ∀ r ∈ l, r.length ≤ 1048576) : ∀ (d i : Nat) (ys : List (List Int)), l.length - i = d → i ≤ l.length → ys.length = l.length → ys.take i = l.take i → Ev (fun k => laws_toByteSS.l0 k l ys (i : Int)) l := by
 intro d
 induction d with
 | zero =>
  intro i ys hd hi hy ht
  refine Ev.step (fun _ => rfl) (ev_neg (by omega) (ev_some ?_))
  rw [List.take_of_length_le (by omega), List.take_of_length_le (by omega)] at ht
  exact ht
 | succ d ih =>
  intro i ys hd hi hy ht
  have hi' : i < l.length := by omega
  refine Ev.step (fun _ => rfl) (ev_pos (by omega) (ev_pos (by omega) ?_))
  rw [rd_L1_at l i hi']
  refine Ev.bind (toByteS_ev l[i] (hr _ (List.getElem_mem hi'))) (ev_pos (by omega) ?_)
  rw [wrap_succ (by omega), Int.toNat_natCast]
  exact ih (i + 1) _ (by omega) (by omega) (by simpa using hy) (set_take_succ ys l i (by omega) (by omega) ht)
theorem toByteSS_ev (l : List (List Int)) (hl : l.length ≤ 1048576) (hr : ∀ r ∈ l, r.length ≤ 1048576) : Ev (fun k => laws_toByteSS.f k l) l := by
 unfold laws_toByteSS.f
 refine ev_pos (by omega) (ev_pos (by omega) ?_)
 rw [Int.toNat_natCast]
 exact toByteSS_l0 l hl hr _ 0 _ rfl (by omega) (by simp) (by simp)

/-! ### laws_eqByteS -/
theorem eqByteS_l0 (a b : List Int) (hl : a.length ≤ 9000000000000000000) (hab : a.length = b.length) : ∀ (d i : Nat), a.length - i = d → i ≤ a.length → a.take i = b.take i → Ev (fun k => laws_eqByteS.l0 k a b (i : Int)) (decide (a = b)) := by
 intro d
 induction d with
 | zero =>
  intro i hd hi ht
  refine Ev.step (fun _ => rfl) (ev_neg (by omega) (ev_some ?_))
  rw [List.take_of_length_le (by omega), List.take_of_length_le (by omega)] at ht
  simp [ht]
 | succ d ih =>
  intro i hd hi ht
  refine Ev.step (fun _ => rfl) (ev_pos (by omega) (ev_pos (by omega) (ev_pos (by omega) ?_)))
  have ha : i < a.length := by omega
  have hb : i < b.length := by omega
  rw [rd_at ha, rd_at hb]
  by_cases e : a[i] = b[i]
  ·
   refine ev_pos e ?_
   rw [wrap_succ (by omega)]
   exact ih (i + 1) (by omega) (by omega) (by rw [List.take_succ_eq_append_getElem ha, List.take_succ_eq_append_getElem hb, ht, e])
  ·
   refine ev_neg e (ev_some ?_)
   have : a ≠ b := fun h => e (by subst h; rfl)
   simp [this]
theorem eqByteS_ev (a b : List Int) (hl : a.length ≤ 9000000000000000000) : Ev (fun k => laws_eqByteS.f k a b) (decide (a = b)) := by
 unfold laws_eqByteS.f
 by_cases h : a.length = b.length
 ·
  refine ev_pos (by omega) ?_
  exact eqByteS_l0 a b hl h _ 0 rfl (by omega) (by simp)
 ·
  refine ev_neg (by omega) (ev_some ?_)
  have : a ≠ b := fun e => h (by rw [e])
  simp [this]
theorem eqByteS_same (a : List Int) (hl : a.length ≤ 9000000000000000000) : Ev (fun k => laws_eqByteS.f k a a) true := ev_eq (by simp) (eqByteS_ev a a hl)

/-! ### laws_eqByteSS -/
theorem eqByteSS_l0 (a : List (List Int)) (hl : a.length ≤ 1048576) (hr : ∀ r ∈ a, r.length ≤ 1048576) : ∀ (d i : Nat), a.length - i = d → i ≤ a.length → Ev (fun k => laws_eqByteSS.l0 k a a (i : Int)) true := by
 intro d
 induction d with
 | zero =>
  intro i hd hi
  exact Ev.step (fun _ => rfl) (ev_neg (by omega) (Ev.now _))
 | succ d ih =>
  intro i hd hi
  have ha : i < a.length := by omega
  have hx := hr a[i] (List.getElem_mem ha)
  refine Ev.step (fun _ => rfl) (ev_pos (by omega) (ev_pos (by omega) (ev_pos (by omega) ?_)))
  rw [rd_L1_at a i ha, wrap_succ (by omega)]
  exact Ev.bind (eqByteS_same a[i] (by omega)) (ev_pos rfl (ih (i + 1) (by omega) (by omega)))
theorem eqByteSS_same (a : List (List Int)) (hl : a.length ≤ 1048576) (hr : ∀ r ∈ a, r.length ≤ 1048576) : Ev (fun k => laws_eqByteSS.f k a a) true := by
 unfold laws_eqByteSS.f
 exact ev_pos rfl (eqByteSS_l0 a hl hr _ 0 rfl (by omega))

/-! ### laws_markByteS -/
theorem markByteS_l0 (a : Int) (n : Nat) (h0 : 0 ≤ a) (h1 : a + n ≤ 9000000000000000000) : ∀ (d i : Nat) (ys : List Int), n - i = d → i ≤ n → ys.length = n → ys.take i = (marks a n).take i → Ev (fun k => laws_markByteS.l0 k ys (a + (i : Int)) (i : Int)) (a + (n : Int), marks a n) := by
 intro d
 induction d with
 | zero =>
  intro i ys hd hi hy ht
  refine Ev.step (fun _ => rfl) (ev_neg (by omega) (ev_some ?_))
  rw [List.take_of_length_le (by omega), List.take_of_length_le (by rw [marks_length]; omega)] at ht
  rw [ht, show i = n by omega]
 | succ d ih =>
  intro i ys hd hi hy ht
  refine Ev.step (fun _ => rfl) (ev_pos (by omega) (ev_pos (by omega) ?_))
  have hm : i < (marks a n).length := by rw [marks_length]; omega
  have e : (a + (i : Int)) % 256 = (marks a n)[i] := by rw [← rd_at hm, marks_at a n (by omega)]
  rw [wrap_succ (by omega), wrap_in (by omega) (by omega), show a + (i : Int) + 1 = a + ((i + 1 : Nat) : Int) by omega, e, Int.toNat_natCast]
  exact ih (i + 1) _ (by omega) (by omega) (by simpa using hy) (set_take_succ ys (marks a n) i (by omega) hm ht)
theorem markByteS_ev (l : List Int) (a : Int) (h0 : 0 ≤ a) (h1 : a + l.length ≤ 9000000000000000000) : Ev (fun k => laws_markByteS.f k l a) (a + (l.length : Int), marks a l.length) := by
 unfold laws_markByteS.f
 have := markByteS_l0 a l.length h0 h1 _ 0 l rfl (by omega) rfl (by simp)
 simpa using this

/-! ### laws_eqIntS -/
theorem eqIntS_l0 (a b : List Int) (hl : a.length ≤ 9000000000000000000) (hab : a.length = b.length) : ∀ (d i : Nat), a.length - i = d → i ≤ a.length → a.take i = b.take i → Ev (fun k => laws_eqIntS.l0 k a b (i : Int)) (decide (a = b)) := by
 intro d
 induction d with
 | zero =>
  intro i hd hi ht
  refine Ev.step (fun _ => rfl) (ev_neg (by omega) (ev_some ?_))
  rw [List.take_of_length_le (by omega), List.take_of_length_le (by omega)] at ht
  simp [ht]
 | succ d ih =>
  intro i hd hi ht
  refine Ev.step (fun _ => rfl) (ev_pos (by omega) (ev_pos (by omega) (ev_pos (by omega) ?_)))
  have ha : i < a.length := by omega
  have hb : i < b.length := by omega
  rw [rd_at ha, rd_at hb]
  by_cases e : a[i] = b[i]
  ·
   refine ev_pos e ?_
   rw [wrap_succ (by omega)]
   exact ih (i + 1) (by omega) (by omega) (by rw [List.take_succ_eq_append_getElem ha, List.take_succ_eq_append_getElem hb, ht, e])
  ·
   refine ev_neg e (ev_some ?_)
   have : a ≠ b := fun h => e (by subst h; rfl)
   simp [this]
theorem eqIntS_ev (a b : List Int) (hl : a.length ≤ 9000000000000000000) : Ev (fun k => laws_eqIntS.f k a b) (decide (a = b)) := by
 unfold laws_eqIntS.f
 by_cases h : a.length = b.length
 ·
  refine ev_pos (by omega) ?_
  exact eqIntS_l0 a b hl h _ 0 rfl (by omega) (by simp)
 ·
  refine ev_neg (by omega) (ev_some ?_)
  have : a ≠ b := fun e => h (by rw [e])
  simp [this]
theorem eqIntS_same (a : List Int) (hl : a.length ≤ 9000000000000000000) : Ev (fun k => laws_eqIntS.f k a a) true := ev_eq (by simp) (eqIntS_ev a a hl)

/-! ### laws_eqStack -/
theorem eqStack_self (a : List Int) (h : List (List Int)) (ha : a.length ≤ 1048576) (hh : h.length ≤ 1048576) (hr : ∀ r ∈ h, r.length ≤ 1048576) : Ev (fun k => laws_eqStack.f k a h a h) true := by
 unfold laws_eqStack.f
 exact Ev.bind (eqIntS_same a (by omega)) (ev_pos rfl (Ev.bind (eqByteSS_same h hh hr) (ev_pos rfl (Ev.now _))))

/-! ### laws_markIntS -/
theorem markIntS_l0 (a : Int) (n : Nat) (h0 : 0 ≤ a) (h1 : a + n ≤ 9000000000000000000) : ∀ (d i : Nat) (ys : List Int), n - i = d → i ≤ n → ys.length = n → ys.take i = (marksI a n).take i → Ev (fun k => laws_markIntS.l0 k ys (a + (i : Int)) (i : Int)) (a + (n : Int), marksI a n) := by
 intro d
 induction d with
 | zero =>
  intro i ys hd hi hy ht
  refine Ev.step (fun _ => rfl) (ev_neg (by omega) (ev_some ?_))
  rw [List.take_of_length_le (by omega), List.take_of_length_le (by rw [marksI_length]; omega)] at ht
  rw [ht, show i = n by omega]
 | succ d ih =>
  intro i ys hd hi hy ht
  refine Ev.step (fun _ => rfl) (ev_pos (by omega) (ev_pos (by omega) ?_))
  have hm : i < (marksI a n).length := by rw [marksI_length]; omega
  have e : a + (i : Int) = (marksI a n)[i] := by rw [← rd_at hm, marksI_at a n (by omega)]
  rw [wrap_succ (by omega), wrap_in (by omega) (by omega), show a + (i : Int) + 1 = a + ((i + 1 : Nat) : Int) by omega, e, Int.toNat_natCast]
  exact ih (i + 1) _ (by omega) (by omega) (by simpa using hy) (set_take_succ ys (marksI a n) i (by omega) hm ht)
theorem markIntS_ev (l : List Int) (a : Int) (h0 : 0 ≤ a) (h1 : a + l.length ≤ 9000000000000000000) : Ev (fun k => laws_markIntS.f k l a) (a + (l.length : Int), marksI a l.length) := by
 unfold laws_markIntS.f
 have := markIntS_l0 a l.length h0 h1 _ 0 l rfl (by omega) rfl (by simp)
 simpa using this

/-! ### spec_ShaPad -/
theorem spec_shaPad_l1 (n : Nat) (hl : n ≤ 4194304 * 8) : ∀ (j : Nat) (acc : List Int), j ≤ 8 → acc.length + j ≤ 140737488355000 → Ev (fun k => spec_ShaPad.l1 k acc (n : Int) ((j : Int) - 1)) (acc ++ beB n j) := by
 intro j
 induction j with
 | zero =>
  intro acc hj ha
  exact Ev.step (fun _ => rfl) (ev_neg (by omega) (ev_some (by simp [beB])))
 | succ j ih =>
  intro acc hj ha
  rw [show ((j + 1 : Nat) : Int) - 1 = (j : Int) by omega]
  refine Ev.step (fun _ => rfl) (ev_pos (by omega) (ev_pos (by rw [wrap_in (by omega) (by omega)]; omega) (ev_pos (by omega) ?_)))
  rw [wrap_in (n := 8 * (j : Int)) (by omega) (by omega), shr_i64 _ _ (by omega) (by omega), show (8 * (j : Int)).toNat = 8 * j by omega, wrap_in (n := (j : Int) - 1) (by omega) (by omega)]
  have e : (n : Int) / 2 ^ (8 * j) % 256 = ((n / 256 ^ j % 256 : Nat) : Int) := by
   rw [← pow256]
   simp
  rw [e]
  have := ih (acc ++ [((n / 256 ^ j % 256 : Nat) : Int)]) (by omega) (by simp; omega)
  simpa [beB] using this
theorem spec_shaPad_l0 (l : List Int) (hl : l.length ≤ 4194304) : ∀ (d : Nat) (acc : List Int), (acc.length + d) % 64 = 56 → d < 64 → acc.length + d ≤ 140737488354000 → Ev (fun k => spec_ShaPad.l0 k l acc) (acc ++ List.replicate d 0 ++ beB (8 * l.length) 8) := by
 intro d
 induction d with
 | zero =>
  intro acc h0 h1 ha
  refine Ev.step (fun _ => rfl) (ev_pos (by omega) ?_)
  rw [wrap_in (n := 8 * (l.length : Int)) (by omega) (by omega), show 8 * (l.length : Int) = ((8 * l.length : Nat) : Int) by omega]
  have := spec_shaPad_l1 (8 * l.length) (by omega) 8 acc (by omega) (by omega)
  simpa using this
 | succ d ih =>
  intro acc h0 h1 ha
  refine Ev.step (fun _ => rfl) (ev_neg (by omega) (ev_pos (by omega) ?_))
  have hl1 : (acc ++ [0]).length = acc.length + 1 := by simp
  have := ih (acc ++ [0]) (by rw [hl1, ← h0]; congr 1; omega) (by omega) (by rw [hl1]; omega)
  simpa [List.replicate_succ] using this
theorem spec_shaPad (l : List Int) (hl : l.length ≤ 4194304) : Ev (fun k => spec_ShaPad.f k l) (shaPad l) := by
 unfold spec_ShaPad.f
 have hc : spec_l01Copy.f l = some l := by
  unfold spec_l01Copy.f
  simp only [Option.bind_some, List.nil_append, List.length_nil, Nat.zero_add]
  rw [if_pos (by omega)]
 refine ev_bind0 hc (ev_pos (by omega) ?_)
 exact spec_shaPad_l0 l hl (missing l.length) (l ++ [128]) (by simp only [missing, List.length_append, List.length_cons, List.length_nil]; omega) (by unfold missing; omega) (by rw [List.length_append]; unfold missing; simp only [List.length_cons, List.length_nil]; omega)

/-! ### spec_Sha -/
theorem spec_sha_l1 (h : List Int) (hh : h.length = 8) : ∀ (d i : Nat) (acc : List Int), i + d = 8 → acc.length = 4 * i → Ev (fun k => spec_Sha.l1 k acc h 8 (i : Int)) (acc ++ shaOut (h.drop i)) := by
 intro d
 induction d with
 | zero =>
  intro i acc hi ha
  refine Ev.step (fun _ => rfl) (ev_neg (by omega) (ev_some ?_))
  rw [List.drop_of_length_le (by omega)]
  simp [shaOut]
 | succ d ih =>
  intro i acc hi ha
  refine Ev.step (fun _ => rfl) (ev_pos (by omega) (ev_pos (by omega) (ev_pos (by omega) (ev_bind0 rfl (ev_pos (by simp; omega) ?_)))))
  rw [wrap_succ (by omega)]
  have := ih (i + 1) (acc ++ word4 (rd h (i : Int))) (by omega) (by simp [word4]; omega)
  rw [rd_at (show i < h.length by omega)] at this ⊢
  rw [List.drop_eq_getElem_cons (show i < h.length by omega), shaOut_cons, ← List.append_assoc]
  exact this
theorem spec_sha_l0 (p : List Int) (hp : p.length ≤ 4194304) (hb : Bytes p) : ∀ (n i : Nat) (h : List Int), Words h → 64 * i + n * 64 = p.length → Ev (fun k => spec_Sha.l0 k h p ((64 * i : Nat) : Int)) (shaOut (shaBlocks n (p.drop (64 * i)) h)) := by
 intro n
 induction n with
 | zero =>
  intro i h hh hi
  refine Ev.step (fun _ => rfl) (ev_neg (by omega) ?_)
  rw [hh.1]
  exact spec_sha_l1 h hh.1 8 0 [] rfl rfl
 | succ n ih =>
  intro i h hh hi
  have e1 : wrap64 (((64 * i : Nat) : Int) + 64) = ((64 * (i + 1) : Nat) : Int) := by unfold wrap64; omega
  have e2 : (p.take (64 * (i + 1))).drop (64 * i) = (p.drop (64 * i)).take 64 := by
   rw [List.drop_take]
   congr 1
   omega
  have e3 : p.drop (64 * (i + 1)) = (p.drop (64 * i)).drop 64 := by
   rw [List.drop_drop]
   congr 1
  refine Ev.step (fun _ => rfl) ?_
  simp only [spec_Sha.l0, e1, Int.toNat_natCast, e2]
  refine ev_pos (by omega) (ev_pos (by omega) (ev_pos (by omega) (ev_pos (by omega) ?_)))
  refine ev_bind0 (x := ShaBase.blockOf h ((p.drop (64 * i)).take 64)) (by rfl) ?_
  have := ih (i + 1) _ (block_words hh (l := (p.drop (64 * i)).take 64) (by rw [List.length_take, List.length_drop]; omega)) (by omega)
  rw [e3] at this
  exact this
theorem spec_sha (l : List Int) (hl : l.length ≤ 4194000) (hb : Bytes l) : Ev (fun k => spec_Sha.f k l) (sha l) := by
 have hn := shaPad_length l
 have hm := shaPad_mod l
 unfold spec_Sha.f
 refine ev_bind0 rfl (Ev.bind (spec_shaPad l (by omega)) ?_)
 have := spec_sha_l0 (shaPad l) (by omega) (shaPad_bytes l hb) ((shaPad l).length / 64) 0 shaInit shaInit_words (by omega)
 exact this

/-! ### spec_LeafHash -/
theorem spec_leafHash (l : List Int) (hl : l.length ≤ 4190000) (hb : Bytes l) : Ev (fun k => spec_LeafHash.f k l) (leafHash l) := by
 unfold spec_LeafHash.f
 exact ev_bind0 rfl (ev_pos (by simp; omega) (Ev.bind (spec_sha ([0] ++ l) (by simp; omega) ((Bytes.one (by omega) (by omega)).app hb)) (Ev.now _)))

/-! ### spec_NodeHash -/
theorem spec_nodeHash (a b : List Int) (ha : a.length ≤ 2000000) (hb : b.length ≤ 2000000) (ga : Bytes a) (gb : Bytes b) : Ev (fun k => spec_NodeHash.f k a b) (nodeHash a b) := by
 unfold spec_NodeHash.f
 exact ev_bind0 rfl (ev_pos (by simp; omega) (ev_bind0 rfl (ev_pos (by simp; omega) (Ev.bind (spec_sha ([1] ++ a ++ b) (by simp; omega) (((Bytes.one (by omega) (by omega)).app ga).app gb)) (Ev.now _)))))

/-! ### impl_StackOk -/
def stepOk (a : List Int) (j : Nat) : Prop := (0 ≤ rd a (j : Int) ∧ rd a (j : Int) ≤ 20) ∧ (0 < j → rd a (j : Int) < rd a ((j : Int) - 1))
def stackOk (a : List Int) (h : List (List Int)) : Prop := a.length = h.length ∧ (∀ j, j < a.length → stepOk a j) ∧ ∀ j, j < h.length → (rd_L2 h (j : Int)).length = 32
theorem spec_in20 (x : Int) : spec_l01In.f x 0 20 = some (decide (0 ≤ x ∧ x ≤ 20)) := by
 unfold spec_l01In.f
 by_cases h : x ≥ 0
 ·
  rw [if_pos h]
  congr 1
  exact decide_eq_decide.2 (by omega)
 ·
  rw [if_neg h, decide_eq_false (by omega)]
theorem impl_in20 (x : Int) : impl_within.f x 0 20 = some (decide (0 ≤ x ∧ x ≤ 20)) := by
 unfold impl_within.f
 by_cases h : 0 ≤ x
 ·
  rw [if_pos h]
  congr 1
  exact decide_eq_decide.2 (by omega)
 ·
  rw [if_neg h, decide_eq_false (by omega)]
theorem spec_stackOk_l0 (a : List Int) (h : List (List Int)) (b : Bool) (hb : b = true ↔ stackOk a h) (hl : a.length ≤ 1048576) (hah : a.length = h.length) : ∀ (d i : Nat), a.length - i = d → i ≤ a.length → (∀ j, j < i → stepOk a j ∧ (rd_L2 h (j : Int)).length = 32) → Ev (fun k => spec_StackOk.l0 k a (a.length : Int) (i : Int) a h) b := by
 intro d
 induction d with
 | zero =>
  intro i hd hi hp
  have : b = true := hb.2 ⟨hah, fun j hj => (hp j (by omega)).1, fun j hj => (hp j (by omega)).2⟩
  exact Ev.step (fun _ => rfl) (ev_neg (by omega) (ev_some this.symm))
 | succ d ih =>
  intro i hd hi hp
  have no : (¬ (stepOk a i ∧ (rd_L2 h (i : Int)).length = 32)) → b = false := fun hn => by
   cases b with
   | false => rfl
   | true =>
    have q := hb.1 rfl
    exact absurd ⟨q.2.1 i (by omega), q.2.2 i (by omega)⟩ hn
  refine Ev.step (fun _ => rfl) (ev_pos (by omega) (ev_pos (by omega) (ev_pos (by omega) (ev_bind0 (spec_in20 _) ?_))))
  by_cases h1 : 0 ≤ rd a (i : Int) ∧ rd a (i : Int) ≤ 20
  ·
   refine ev_pos (decide_eq_true h1) (ev_pos (by omega) (ev_bind0 (x := decide ((rd_L2 h (i : Int)).length = 32)) ?_ ?_))
   ·
    unfold spec_l07Hash.f
    congr 1
    rw [Bool.eq_iff_iff]
    simp only [beq_iff_eq, decide_eq_true_eq]
    omega
   ·
    by_cases h2 : (rd_L2 h (i : Int)).length = 32
    ·
     refine ev_pos (decide_eq_true h2) ?_
     by_cases h3 : 0 < i
     ·
      rw [wrap_in (n := (i : Int) - 1) (by omega) (by omega), wrap_succ (by omega)]
      refine ev_pos (by omega) (ev_pos (by omega) (ev_pos (by omega) ?_))
      by_cases h4 : rd a ((i : Int) - 1) ≤ rd a (i : Int)
      ·
       exact ev_pos h4 (ev_some (no (fun q => by have := q.1.2 h3; omega)).symm)
      ·
       refine ev_neg h4 (ih (i + 1) (by omega) (by omega) fun j hj => ?_)
       by_cases e : j = i
       ·
        subst e
        exact ⟨⟨h1, fun _ => by omega⟩, h2⟩
       ·
        exact hp j (by omega)
     ·
      rw [wrap_succ (by omega)]
      refine ev_neg (by omega) (ih (i + 1) (by omega) (by omega) fun j hj => ?_)
      obtain rfl : j = i := by omega
      exact ⟨⟨h1, fun q => absurd q h3⟩, h2⟩
    ·
     exact ev_neg (by simpa using h2) (ev_some (no (fun q => h2 q.2)).symm)
  ·
   exact ev_neg (by simpa using h1) (ev_some (no (fun q => h1 q.1.1)).symm)
theorem impl_hashes_l0 (h : List (List Int)) (b : Bool) (hb : b = true ↔ ∀ j, j < h.length → (rd_L2 h (j : Int)).length = 32) (hl : h.length ≤ 1048576) : ∀ (d i : Nat), h.length - i = d → i ≤ h.length → (∀ j, j < i → (rd_L2 h (j : Int)).length = 32) → Ev (fun k => impl_areHashes.l0 k h (h.length : Int) (i : Int)) b := by
 intro d
 induction d with
 | zero =>
  intro i hd hi hp
  have : b = true := hb.2 fun j hj => hp j (by omega)
  exact Ev.step (fun _ => rfl) (ev_neg (by omega) (ev_some this.symm))
 | succ d ih =>
  intro i hd hi hp
  refine Ev.step (fun _ => rfl) (ev_pos (by omega) (ev_pos (by omega) (ev_pos (by omega) ?_)))
  by_cases h2 : (rd_L2 h (i : Int)).length = 32
  ·
   rw [wrap_succ (by omega)]
   refine ev_pos (by omega) (ih (i + 1) (by omega) (by omega) fun j hj => ?_)
   by_cases e : j = i
   ·
    subst e
    exact h2
   ·
    exact hp j (by omega)
  ·
   refine ev_neg (by omega) (ev_some ?_)
   cases b with
   | false => rfl
   | true => exact absurd (hb.1 rfl i (by omega)) h2
theorem impl_stackOk_l0 (a : List Int) (h : List (List Int)) (b : Bool) (hb : b = true ↔ stackOk a h) (hl : a.length ≤ 1048576) (hlh : h.length ≤ 1048576) : ∀ (d i : Nat), a.length - i = d → i ≤ a.length → (∀ j, j < i → stepOk a j) → Ev (fun k => impl_StackOk.l0 k a (a.length : Int) (i : Int) a h) b := by
 intro d
 induction d with
 | zero =>
  intro i hd hi hp
  refine Ev.step (fun _ => rfl) (ev_neg (by omega) ?_)
  by_cases hah : a.length = h.length
  ·
   refine ev_pos (by omega) (Ev.bind (a := b) ?_ (Ev.now _))
   refine impl_hashes_l0 h b ?_ hlh _ 0 rfl (by omega) (fun j hj => absurd hj (by omega))
   rw [hb]
   exact ⟨fun q => q.2.2, fun q => ⟨hah, fun j hj => hp j (by omega), q⟩⟩
  ·
   refine ev_neg (by omega) (ev_some ?_)
   cases b with
   | false => rfl
   | true => exact absurd (hb.1 rfl).1 hah
 | succ d ih =>
  intro i hd hi hp
  have no : (¬ stepOk a i) → b = false := fun hn => by
   cases b with
   | false => rfl
   | true => exact absurd ((hb.1 rfl).2.1 i (by omega)) hn
  refine Ev.step (fun _ => rfl) (ev_pos (by omega) (ev_pos (by omega) (ev_pos (by omega) (ev_bind0 (impl_in20 _) ?_))))
  by_cases h1 : 0 ≤ rd a (i : Int) ∧ rd a (i : Int) ≤ 20
  ·
   refine ev_pos (decide_eq_true h1) ?_
   by_cases h3 : 0 < i
   ·
    rw [wrap_in (n := (i : Int) - 1) (by omega) (by omega), wrap_succ (by omega)]
    refine ev_pos (by omega) (ev_pos (by omega) (ev_pos (by omega) ?_))
    by_cases h4 : rd a (i : Int) ≥ rd a ((i : Int) - 1)
    ·
     exact ev_pos h4 (ev_some (no (fun q => by have := q.2 h3; omega)).symm)
    ·
     refine ev_neg h4 (ih (i + 1) (by omega) (by omega) fun j hj => ?_)
     by_cases e : j = i
     ·
      subst e
      exact ⟨h1, fun _ => by omega⟩
     ·
      exact hp j (by omega)
   ·
    rw [wrap_succ (by omega)]
    refine ev_neg (by omega) (ih (i + 1) (by omega) (by omega) fun j hj => ?_)
    obtain rfl : j = i := by omega
    exact ⟨h1, fun q => absurd q h3⟩
  ·
   exact ev_neg (by simpa using h1) (ev_some (no (fun q => h1 q.1)).symm)
theorem stackOk_both (a : List Int) (h : List (List Int)) (hl : a.length ≤ 1048576) (hlh : h.length ≤ 1048576) : ∃ b, (b = true ↔ stackOk a h) ∧ Ev (fun k => spec_StackOk.f k a h) b ∧ Ev (fun k => impl_StackOk.f k a h) b := by
 obtain ⟨b, hb⟩ : ∃ b : Bool, b = true ↔ stackOk a h := by
  rcases Classical.em (stackOk a h) with q | q
  ·
   exact ⟨true, fun _ => q, fun _ => rfl⟩
  ·
   exact ⟨false, fun e => absurd e Bool.false_ne_true, fun e => absurd e q⟩
 refine ⟨b, hb, ?_, impl_stackOk_l0 a h b hb hl hlh _ 0 rfl (by omega) (fun j hj => absurd hj (by omega))⟩
 unfold spec_StackOk.f
 by_cases hah : a.length = h.length
 ·
  exact ev_pos (by omega) (spec_stackOk_l0 a h b hb hl hah _ 0 rfl (by omega) (fun j hj => absurd hj (by omega)))
 ·
  refine ev_neg (by omega) (ev_some ?_)
  cases b with
  | false => rfl
  | true => exact absurd (hb.1 rfl).1 hah

/-! ### stackPush -/
theorem impl_copyB (x : List Int) (h : x.length ≤ 1048576) : impl_copyBytes.f x = some x := by
 unfold impl_copyBytes.f
 simp only [Option.bind_some, List.nil_append, List.length_nil, Nat.zero_add]
 rw [if_pos (by omega)]
theorem spec_copyB (x : List Int) (h : x.length ≤ 1048576) : spec_l01Copy.f x = some x := by
 unfold spec_l01Copy.f
 simp only [Option.bind_some, List.nil_append, List.length_nil, Nat.zero_add]
 rw [if_pos (by omega)]
theorem rdL_at (l : List (List Int)) (i : Nat) (h : i < l.length) : rd_L2 l (i : Int) = l[i] := by
 unfold rd_L2
 rw [Int.toNat_natCast, List.getD_eq_getElem?_getD, List.getElem?_eq_getElem h]
 rfl
theorem rd_at (l : List Int) (i : Nat) (h : i < l.length) : rd l (i : Int) = l[i] := by
 unfold rd
 rw [Int.toNat_natCast, List.getD_eq_getElem?_getD, List.getElem?_eq_getElem h]
 rfl
theorem copyList_l0 (l : List (List Int)) (hl : l.length ≤ 1048576) (hr : ∀ r ∈ l, r.length ≤ 1048576) : ∀ (d i : Nat), l.length - i = d → i ≤ l.length → Ev (fun k => impl_copyList.l0 k (l.take i) l (l.length : Int) (i : Int)) l ∧ Ev (fun k => spec_l06Copy.l0 k (l.take i) l (l.length : Int) (i : Int)) l := by
 intro d
 induction d with
 | zero =>
  intro i hd hi
  have e : l.take i = l := List.take_of_length_le (by omega)
  exact ⟨Ev.step (fun _ => rfl) (ev_neg (by omega) (ev_some e)), Ev.step (fun _ => rfl) (ev_neg (by omega) (ev_some e))⟩
 | succ d ih =>
  intro i hd hi
  have hi' : i < l.length := by omega
  have hx := hr l[i] (List.getElem_mem hi')
  have e : l.take i ++ [l[i]] = l.take (i + 1) := by simp
  have q : (l.take i).length ≤ i := by rw [List.length_take]; omega
  obtain ⟨a, b⟩ := ih (i + 1) (by omega) (by omega)
  refine ⟨Ev.step (fun _ => rfl) (ev_pos (by omega) (ev_pos (by omega) (ev_pos (by omega) ?_))), Ev.step (fun _ => rfl) (ev_pos (by omega) (ev_pos (by omega) (ev_pos (by omega) ?_)))⟩
  ·
   rw [rdL_at l i hi', wrap_succ (by omega)]
   exact ev_bind0 (impl_copyB _ hx) (ev_pos (by omega) (by rw [e]; exact a))
  ·
   rw [rdL_at l i hi', wrap_succ (by omega)]
   exact ev_bind0 (spec_copyB _ hx) (ev_pos (by omega) (by rw [e]; exact b))
theorem copyList_both (l : List (List Int)) (hl : l.length ≤ 1048576) (hr : ∀ r ∈ l, r.length ≤ 1048576) : Ev (fun k => impl_copyList.f k l) l ∧ Ev (fun k => spec_l06Copy.f k l) l := copyList_l0 l hl hr _ 0 rfl (Nat.zero_le _)
theorem set_take_last {α : Type} (a : List α) (m : Nat) (hm : m < a.length) (u v : α) : ((a.take (m + 1) ++ [u]).set m v).take (m + 1) = a.take m ++ [v] := by
 have l : (a.take m).length = m := by rw [List.length_take]; omega
 have e : a.take (m + 1) = a.take m ++ [a[m]] := by simp
 rw [e, List.append_assoc, List.set_append_right _ _ (by omega), l, Nat.sub_self]
 show (a.take m ++ [v, u]).take (m + 1) = _
 rw [List.take_append, l, List.take_of_length_le (by omega)]
 simp
theorem areHashes_one (x : List Int) : Ev (fun k => impl_areHashes.f k [x]) (decide (x.length = 32)) := by
 refine impl_hashes_l0 [x] _ ?_ (by simp) _ 0 rfl (Nat.zero_le _) (fun j hj => absurd hj (by omega))
 rw [decide_eq_true_eq]
 refine ⟨fun q j hj => ?_, fun q => q 0 (by simp)⟩
 obtain rfl : j = 0 := by simp at hj; omega
 exact q
/-- Both merge alike: the program in its own rows' tails, the reference beside the rows. -/
theorem push_l0 (a : List Int) (h : List (List Int)) (ha : a.length ≤ 1048575) (hah : a.length = h.length) (hk : RowsOk h) : ∀ (n : Nat) (up : Int) (x : List Int), n ≤ a.length → x.length ≤ 1048576 → Bytes x →
  ∃ r1 r2 r3, Ev (fun k => spec_StackPush.l0 k (n : Int) up x a h) (r1, r2, r3) ∧ Ev (fun k => impl_StackPush.l0 k ((n + 1 : Nat) : Int) (a.take n ++ [up]) (h.take n ++ [x])) (r1, r2, r3) ∧ r1.length ≤ n + 1 ∧ r2.length ≤ n + 1 ∧ RowsOk r2 := by
 have tail : ∀ (n : Nat) (up : Int) (x : List Int), n ≤ a.length → x.length ≤ 1048576 → Bytes x → ∃ r1 r2 r3, Ev (fun k => spec_StackPush.j2 k (n : Int) up x a h) (r1, r2, r3) ∧ Ev (fun k => (impl_StackOk.f k (a.take n ++ [up]) (h.take n ++ [x])).bind fun t => if t = true then some (a.take n ++ [up], h.take n ++ [x], true) else some ([], [], false)) (r1, r2, r3) ∧ r1.length ≤ n + 1 ∧ r2.length ≤ n + 1 ∧ RowsOk r2 := by
  intro n up x hn hx gx
  have l1 : (a.take n).length = n := by rw [List.length_take]; omega
  have l2 : (h.take n).length = n := by rw [List.length_take]; omega
  have rk : RowsOk (h.take n ++ [x]) := fun r hr => by
   rcases List.mem_append.1 hr with hr | hr
   ·
    exact hk r (List.mem_of_mem_take hr)
   ·
    obtain rfl : r = x := by simpa using hr
    exact ⟨gx, hx⟩
  obtain ⟨b, _, e1, e2⟩ := stackOk_both (a.take n ++ [up]) (h.take n ++ [x]) (by simp; omega) (by simp; omega)
  obtain ⟨_, ec⟩ := copyList_both (h.take n) (by omega) (fun r hr => (hk r (List.mem_of_mem_take hr)).2)
  have es : ∀ r, Ev (fun k => (spec_StackOk.f k (a.take n ++ [up]) (h.take n ++ [x])).bind fun t => if t = true then some (a.take n ++ [up], h.take n ++ [x], true) else some ([], [], false)) r → Ev (fun k => spec_StackPush.j2 k (n : Int) up x a h) r := by
   intro r hr
   refine Ev.step (fun _ => rfl) (ev_bind0 rfl (ev_pos (by omega) (ev_pos (by omega) ?_)))
   rw [Int.toNat_natCast]
   refine ev_pos (by simp; omega) (ev_bind0 rfl (ev_pos (by omega) (Ev.bind ec (ev_pos (by simp; omega) (ev_bind0 rfl (ev_pos (by omega) (ev_bind0 rfl ?_)))))))
   exact hr
  cases b with
  | true => exact ⟨_, _, true, es _ (Ev.bind e1 (ev_pos rfl (Ev.now _))), Ev.bind e2 (ev_pos rfl (Ev.now _)), by simp; omega, by simp; omega, rk⟩
  | false => exact ⟨[], [], false, es _ (Ev.bind e1 (ev_neg Bool.false_ne_true (Ev.now _))), Ev.bind e2 (ev_neg Bool.false_ne_true (Ev.now _)), Nat.zero_le _, Nat.zero_le _, fun r hr => by cases hr⟩
 intro n
 induction n with
 | zero =>
  intro up x hn hx gx
  obtain ⟨r1, r2, r3, es, ei, q⟩ := tail 0 up x hn hx gx
  exact ⟨r1, r2, r3, Ev.step (fun _ => rfl) (ev_neg (by omega) es), Ev.step (fun _ => rfl) (ev_neg (by omega) ei), q⟩
 | succ m ih =>
  intro up x hn hx gx
  have hm : m < a.length := by omega
  have hm2 : m < h.length := by omega
  have l1 : (a.take (m + 1)).length = m + 1 := by rw [List.length_take]; omega
  have l2 : (h.take (m + 1)).length = m + 1 := by rw [List.length_take]; omega
  have w1 : wrap64 (((m + 1 : Nat) : Int) - 1) = (m : Int) := by rw [wrap_in (by omega) (by omega)]; omega
  have w2 : wrap64 (((m + 1 + 1 : Nat) : Int) - 1) = ((m + 1 : Nat) : Int) := by rw [wrap_in (by omega) (by omega)]; omega
  have w3 : wrap64 (((m + 1 + 1 : Nat) : Int) - 2) = (m : Int) := by rw [wrap_in (by omega) (by omega)]; omega
  have d1 : rd (a.take (m + 1) ++ [up]) ((m + 1 : Nat) : Int) = up := by
   rw [rd_at _ _ (by simp; omega), List.getElem_append_right (by omega)]
   simp [l1]
  have d2 : rd (a.take (m + 1) ++ [up]) (m : Int) = a[m] := by
   rw [rd_at _ _ (by simp; omega), List.getElem_append_left (by omega), List.getElem_take]
  have d3 : rd_L2 (h.take (m + 1) ++ [x]) ((m + 1 : Nat) : Int) = x := by
   rw [rdL_at _ _ (by simp; omega), List.getElem_append_right (by omega)]
   simp [l2]
  have d4 : rd_L2 (h.take (m + 1) ++ [x]) (m : Int) = h[m] := by
   rw [rdL_at _ _ (by simp; omega), List.getElem_append_left (by omega), List.getElem_take]
  obtain ⟨gb, gl⟩ := hk h[m] (List.getElem_mem hm2)
  by_cases e : a[m] = up
  ·
   obtain ⟨r1, r2, r3, es, ei, q1, q2, q3⟩ := ih (wrap64 (up + 1)) (nodeHash h[m] x) (by omega) (by rw [nodeHash_length]; omega) (nodeHash_bytes _ _)
   refine ⟨r1, r2, r3, Ev.step (fun _ => rfl) (ev_pos (by omega) ?_), Ev.step (fun _ => rfl) (ev_pos (by omega) ?_), by omega, by omega, q3⟩
   ·
    rw [w1, rd_at a m hm, rdL_at h m hm2]
    exact ev_pos (by omega) (ev_pos (by omega) (ev_pos e (ev_pos (by omega) (Ev.bind (spec_nodeHash h[m] x (by omega) (by omega) gb gx) es))))
   ·
    rw [w2, w3, d1, d2, d3, d4, Int.toNat_natCast, Int.toNat_natCast, e, set_take_last a m hm]
    refine ev_pos (by omega) (ev_pos (by simp; omega) (ev_pos (by omega) (ev_pos (by simp; omega) (ev_pos rfl (ev_pos (by simp; omega) (ev_pos (by simp; omega) (Ev.bind (impl_nodeHash h[m] x (by omega) (by omega) gb gx) (ev_pos (by simp; omega) (ev_pos (by simp; omega) ?_)))))))))
    rw [set_take_last h m hm2]
    exact ei
  ·
   obtain ⟨r1, r2, r3, es, ei, q1, q2, q3⟩ := tail (m + 1) up x hn hx gx
   refine ⟨r1, r2, r3, Ev.step (fun _ => rfl) (ev_pos (by omega) ?_), Ev.step (fun _ => rfl) (ev_pos (by omega) ?_), q1, q2, q3⟩
   ·
    rw [w1, rd_at a m hm]
    exact ev_pos (by omega) (ev_pos (by omega) (ev_neg e es))
   ·
    rw [w2, w3, d1, d2]
    exact ev_pos (by omega) (ev_pos (by simp; omega) (ev_pos (by omega) (ev_pos (by simp; omega) (ev_neg (fun q => e q.symm) ei))))
theorem stackOk_len (a : List Int) (h : List (List Int)) (q : stackOk a h) : a.length ≤ 21 := by
 have k : ∀ j : Nat, j < a.length → rd a (j : Int) + (j : Int) ≤ 20 := by
  intro j
  induction j with
  | zero =>
   intro hj
   have := (q.2.1 0 hj).1.2
   omega
  | succ j ih =>
   intro hj
   have h1 := ih (by omega)
   have h2 := (q.2.1 (j + 1) hj).2 (by omega)
   rw [show ((j + 1 : Nat) : Int) - 1 = (j : Int) by omega] at h2
   omega
 rcases Nat.eq_zero_or_pos a.length with h0 | h0
 ·
  omega
 ·
  have h1 := k (a.length - 1) (by omega)
  have h2 := (q.2.1 (a.length - 1) (by omega)).1.1
  omega
theorem spec_push_no (x a : List Int) (h : List (List Int)) : Ev (fun k => spec_StackPush.j0 k x true a h) ([], [], false) := by
 exact Ev.step (g := fun k => spec_StackPush.j0 k x true a h) (f := fun _ => some ([], [], false)) (fun k => by simp only [spec_StackPush.j0, if_true]) (Ev.now _)
theorem impl_push_no (x a : List Int) (h : List (List Int)) : Ev (fun k => impl_StackPush.j0 k x true a h) ([], [], false) := by
 exact Ev.step (g := fun k => impl_StackPush.j0 k x true a h) (f := fun _ => some ([], [], false)) (fun k => by simp only [impl_StackPush.j0, if_true]) (Ev.now _)
theorem spec_push_yes (x a : List Int) (h : List (List Int)) (hx : x.length ≤ 1048576) (r : List Int × List (List Int) × Bool) (e : Ev (fun k => spec_StackPush.l0 k (a.length : Int) 0 x a h) r) : Ev (fun k => spec_StackPush.j0 k x false a h) r := by
 exact Ev.step (g := fun k => spec_StackPush.j0 k x false a h) (f := fun k => (spec_l01Copy.f x).bind fun t => spec_StackPush.l0 k (a.length : Int) 0 t a h) (fun k => by simp only [spec_StackPush.j0, Bool.false_eq_true, if_false]) (ev_bind0 (spec_copyB x hx) e)
theorem impl_push_yes (x a : List Int) (h : List (List Int)) (ha : a.length ≤ 1048576) (hh : h.length ≤ 1048576) (hx : x.length ≤ 1048576) (ec : Ev (fun k => impl_copyList.f k h) h) (r : List Int × List (List Int) × Bool) (e : Ev (fun k => impl_StackPush.l0 k (([] ++ a ++ [0] : List Int).length : Int) ([] ++ a ++ [0]) (h ++ [x])) r) : Ev (fun k => impl_StackPush.j0 k x false a h) r := by
 refine Ev.step (g := fun k => impl_StackPush.j0 k x false a h) (f := fun k => (some ([] : List Int)).bind fun y => if y.length + a.length < 17592186044416 then (some (y ++ a)).bind fun z => (some ([0] : List Int)).bind fun u => if z.length + u.length < 17592186044416 then (some (z ++ u)).bind fun v => (impl_copyList.f k h).bind fun t => (impl_copyBytes.f x).bind fun s => (some [s]).bind fun y' => if t.length + y'.length < 5864062014805 then impl_StackPush.l0 k (v.length : Int) v (t ++ y') else none else none else none) (fun k => by simp only [impl_StackPush.j0, Bool.false_eq_true, if_false]) ?_
 refine ev_bind0 rfl (ev_pos (by simp; omega) (ev_bind0 rfl (ev_bind0 rfl (ev_pos (by simp; omega) (ev_bind0 rfl (Ev.bind ec (ev_bind0 (impl_copyB x hx) (ev_bind0 rfl (ev_pos (by simp; omega) ?_)))))))))
 exact e
theorem push_both (a : List Int) (h : List (List Int)) (x : List Int) (ha : a.length ≤ 1048576) (hh : h.length ≤ 1048576) (hk : RowsOk h) (hx : x.length ≤ 1048576) (gx : Bytes x) :
  ∃ r1 r2 r3, Ev (fun k => spec_StackPush.f k a h x) (r1, r2, r3) ∧ Ev (fun k => impl_StackPush.f k a h x) (r1, r2, r3) ∧ r1.length ≤ 22 ∧ r2.length ≤ 22 ∧ RowsOk r2 := by
 obtain ⟨b, hb, e1, e2⟩ := stackOk_both a h ha hh
 cases b with
 | false => exact ⟨[], [], false, Ev.bind e1 (ev_neg Bool.false_ne_true (spec_push_no x a h)), Ev.bind e2 (ev_neg Bool.false_ne_true (impl_push_no x a h)), Nat.zero_le _, Nat.zero_le _, fun r hr => by cases hr⟩
 | true =>
  have hah := (hb.1 rfl).1
  have h21 := stackOk_len a h (hb.1 rfl)
  have s32 : spec_l07Hash.f x = some (decide (x.length = 32)) := by
   unfold spec_l07Hash.f
   congr 1
   rw [Bool.eq_iff_iff]
   simp only [beq_iff_eq, decide_eq_true_eq]
   omega
  have ea := areHashes_one x
  by_cases c : x.length = 32
  ·
   have dc : decide (x.length = 32) = true := decide_eq_true c
   obtain ⟨r1, r2, r3, es, ei, q1, q2, q3⟩ := push_l0 a h (by omega) hah hk a.length 0 x (Nat.le_refl _) hx gx
   rw [List.take_of_length_le (Nat.le_refl _), hah, List.take_of_length_le (Nat.le_refl _), ← hah] at ei
   obtain ⟨ec, _⟩ := copyList_both h hh (fun r hr => (hk r hr).2)
   rw [dc] at s32 ea
   refine ⟨r1, r2, r3, Ev.bind e1 (ev_pos rfl (ev_bind0 s32 (spec_push_yes x a h hx _ es))), Ev.bind e2 (ev_pos rfl (Ev.bind ea (impl_push_yes x a h ha hh hx ec _ ?_))), by omega, by omega, q3⟩
   rw [List.nil_append, List.length_append, List.length_singleton]
   exact ei
  ·
   have dc : decide (x.length = 32) = false := decide_eq_false c
   rw [dc] at s32 ea
   exact ⟨[], [], false, Ev.bind e1 (ev_pos rfl (ev_bind0 s32 (spec_push_no x a h))), Ev.bind e2 (ev_pos rfl (Ev.bind ea (impl_push_no x a h))), Nat.zero_le _, Nat.zero_le _, fun r hr => by cases hr⟩

/-! ### stackOf -/
theorem stackOf_l0 (l : List (List Int)) (hl : l.length ≤ 1048576) (hk : RowsOk l) : ∀ (d i : Nat) (a : List Int) (h : List (List Int)), l.length - i = d → i ≤ l.length → a.length ≤ 22 → h.length ≤ 22 → RowsOk h →
  ∃ r1 r2 r3, Ev (fun k => spec_StackOf.l0 k l (l.length : Int) (i : Int) a h) (r1, r2, r3) ∧ Ev (fun k => impl_StackOf.l0 k l (l.length : Int) (i : Int) a h) (r1, r2, r3) ∧ r1.length ≤ 22 ∧ r2.length ≤ 22 ∧ RowsOk r2 := by
 intro d
 induction d with
 | zero =>
  intro i a h hd hi ha hh hr
  exact ⟨a, h, true, Ev.step (fun _ => rfl) (ev_neg (by omega) (Ev.now _)), Ev.step (fun _ => rfl) (ev_neg (by omega) (Ev.now _)), ha, hh, hr⟩
 | succ d ih =>
  intro i a h hd hi ha hh hr
  have hi' : i < l.length := by omega
  obtain ⟨gb, gl⟩ := hk l[i] (List.getElem_mem hi')
  have e1 := spec_leafHash l[i] (by omega) gb
  have e2 := impl_leafHash l[i] (by omega) gb
  obtain ⟨r1, r2, r3, p1, p2, q1, q2, q3⟩ := push_both a h (leafHash l[i]) (by omega) (by omega) hr (by rw [leafHash_length]; omega) (leafHash_bytes _)
  cases r3 with
  | true =>
   obtain ⟨s1, s2, s3, f1, f2, q⟩ := ih (i + 1) r1 r2 (by omega) (by omega) q1 q2 q3
   refine ⟨s1, s2, s3, Ev.step (fun _ => rfl) (ev_pos (by omega) (ev_pos (by omega) (ev_pos (by omega) ?_))), Ev.step (fun _ => rfl) (ev_pos (by omega) (ev_pos (by omega) (ev_pos (by omega) ?_))), q⟩
   ·
    rw [rdL_at l i hi', wrap_succ (by omega)]
    exact Ev.bind e1 (Ev.bind p1 (ev_pos rfl f1))
   ·
    rw [rdL_at l i hi', wrap_succ (by omega)]
    exact Ev.bind e2 (Ev.bind p2 (ev_pos rfl f2))
  | false =>
   refine ⟨[], [], false, Ev.step (fun _ => rfl) (ev_pos (by omega) (ev_pos (by omega) (ev_pos (by omega) ?_))), Ev.step (fun _ => rfl) (ev_pos (by omega) (ev_pos (by omega) (ev_pos (by omega) ?_))), Nat.zero_le _, Nat.zero_le _, fun r hr => by cases hr⟩
   ·
    rw [rdL_at l i hi']
    exact Ev.bind e1 (Ev.bind p1 (ev_neg Bool.false_ne_true (Ev.now _)))
   ·
    rw [rdL_at l i hi']
    exact Ev.bind e2 (Ev.bind p2 (ev_neg Bool.false_ne_true (Ev.now _)))
theorem stackOf_both (l : List (List Int)) (hl : l.length ≤ 1048576) (hk : RowsOk l) : ∃ r1 r2 r3, Ev (fun k => spec_StackOf.f k l) (r1, r2, r3) ∧ Ev (fun k => impl_StackOf.f k l) (r1, r2, r3) ∧ r1.length ≤ 22 ∧ r2.length ≤ 22 ∧ RowsOk r2 :=
 stackOf_l0 l hl hk _ 0 [] [] rfl (Nat.zero_le _) (Nat.zero_le _) (Nat.zero_le _) (fun r hr => by cases hr)

/-! ### laws_heldIntS -/
theorem heldIntS_l0 (a : Int) (n : Nat) (h0 : 0 ≤ a) (h1 : a + n ≤ 9000000000000000000) : ∀ (d i : Nat), n - i = d → i ≤ n → Ev (fun k => laws_heldIntS.l0 k (marksI a n) (a + (i : Int)) (i : Int)) (a + (n : Int)) := by
 intro d
 induction d with
 | zero =>
  intro i hd hi
  refine Ev.step (fun _ => rfl) (ev_neg (by rw [marksI_length]; omega) (ev_some ?_))
  rw [show i = n by omega]
 | succ d ih =>
  intro i hd hi
  refine Ev.step (fun _ => rfl) (ev_pos (by rw [marksI_length]; omega) (ev_pos (by omega) (ev_pos (marksI_at a n (by omega)) ?_)))
  rw [wrap_succ (by omega), wrap_in (by omega) (by omega), show a + (i : Int) + 1 = a + ((i + 1 : Nat) : Int) by omega]
  exact ih (i + 1) (by omega) (by omega)
theorem heldIntS_ev (a : Int) (n : Nat) (h0 : 0 ≤ a) (h1 : a + n ≤ 9000000000000000000) : Ev (fun k => laws_heldIntS.f k (marksI a n) a) (a + (n : Int)) := by
 unfold laws_heldIntS.f
 have := heldIntS_l0 a n h0 h1 _ 0 rfl (by omega)
 simpa using this

/-! ### laws_heldByteS -/
theorem heldByteS_l0 (a : Int) (n : Nat) (h0 : 0 ≤ a) (h1 : a + n ≤ 9000000000000000000) : ∀ (d i : Nat), n - i = d → i ≤ n → Ev (fun k => laws_heldByteS.l0 k (marks a n) (a + (i : Int)) (i : Int)) (a + (n : Int)) := by
 intro d
 induction d with
 | zero =>
  intro i hd hi
  refine Ev.step (fun _ => rfl) (ev_neg (by rw [marks_length]; omega) (ev_some ?_))
  rw [show i = n by omega]
 | succ d ih =>
  intro i hd hi
  refine Ev.step (fun _ => rfl) (ev_pos (by rw [marks_length]; omega) (ev_pos (by omega) (ev_pos (marks_at a n (by omega)) ?_)))
  rw [wrap_succ (by omega), wrap_in (by omega) (by omega), show a + (i : Int) + 1 = a + ((i + 1 : Nat) : Int) by omega]
  exact ih (i + 1) (by omega) (by omega)
theorem heldByteS_ev (a : Int) (n : Nat) (h0 : 0 ≤ a) (h1 : a + n ≤ 9000000000000000000) : Ev (fun k => laws_heldByteS.f k (marks a n) a) (a + (n : Int)) := by
 unfold laws_heldByteS.f
 have := heldByteS_l0 a n h0 h1 _ 0 rfl (by omega)
 simpa using this

/-! ### laws_heldStack -/
/-- The marks of rows, one row behind the other, and the mark behind the last. -/
def marksSS : Int → List (List Int) → List (List Int)
 | _, [] => []
 | a, x :: xs => marks a x.length :: marksSS (a + (x.length : Int)) xs
def endSS : Int → List (List Int) → Int
 | a, [] => a
 | a, x :: xs => endSS (a + (x.length : Int)) xs
theorem marksSS_length : ∀ (l : List (List Int)) (a : Int), (marksSS a l).length = l.length
 | [], _ => rfl
 | x :: xs, a => by
  show (marksSS (a + (x.length : Int)) xs).length + 1 = xs.length + 1
  rw [marksSS_length xs]
theorem endSS_ge : ∀ (l : List (List Int)) (a : Int), a ≤ endSS a l
 | [], _ => Int.le_refl _
 | x :: xs, a => by
  have := endSS_ge xs (a + (x.length : Int))
  show a ≤ endSS (a + (x.length : Int)) xs
  omega
theorem endSS_le : ∀ (l : List (List Int)) (a : Int), (∀ r ∈ l, r.length ≤ 1048576) → endSS a l ≤ a + (l.length : Int) * 1048576
 | [], _, _ => by simp [endSS]
 | x :: xs, a, hr => by
  have h := endSS_le xs (a + (x.length : Int)) (fun r q => hr r (List.mem_cons_of_mem _ q))
  have hx := hr x List.mem_cons_self
  show endSS (a + (x.length : Int)) xs ≤ _
  rw [List.length_cons]
  omega
theorem markSS_ev : ∀ (l : List (List Int)) (a : Int), 0 ≤ a → (∀ r ∈ l, r.length ≤ 1048576) → a + (l.length : Int) * 1048576 ≤ 9000000000000000000 → Ev (fun k => laws_markByteSS.f k l a) (endSS a l, marksSS a l) := by
 intro l
 induction l with
 | nil => exact fun a _ _ _ => Ev.now _
 | cons x xs ih =>
  intro a h0 hr hs
  have hx := hr x List.mem_cons_self
  simp only [List.length_cons] at hs
  exact Ev.bind (markByteS_ev x a h0 (by omega)) (Ev.bind (ih (a + (x.length : Int)) (by omega) (fun r h => hr r (List.mem_cons_of_mem _ h)) (by omega)) (Ev.now _))
theorem heldSS_l0 : ∀ (l : List (List Int)) (a : Int) (pre : List (List Int)), 0 ≤ a → (∀ r ∈ l, r.length ≤ 1048576) → a + (l.length : Int) * 1048576 ≤ 9000000000000000000 → pre.length + l.length ≤ 2097152 → Ev (fun k => laws_heldByteSS.l0 k (pre ++ marksSS a l) a (pre.length : Int)) (endSS a l) := by
 intro l
 induction l with
 | nil =>
  intro a pre h0 hr hs hl
  exact Ev.step (fun _ => rfl) (ev_neg (by simp [marksSS]) (Ev.now _))
 | cons x xs ih =>
  intro a pre h0 hr hs hl
  have hx := hr x List.mem_cons_self
  simp only [List.length_cons] at hs hl
  have e : rd_L2 (pre ++ marksSS a (x :: xs)) (pre.length : Int) = marks a x.length := by
   unfold rd_L2
   rw [Int.toNat_natCast, List.getD_eq_getElem?_getD, List.getElem?_append_right (Nat.le_refl _), Nat.sub_self]
   rfl
  have e2 : pre ++ marksSS a (x :: xs) = (pre ++ [marks a x.length]) ++ marksSS (a + (x.length : Int)) xs := by
   rw [List.append_assoc]
   rfl
  refine Ev.step (fun _ => rfl) (ev_pos ?_ (ev_pos (by omega) ?_))
  ·
   simp [marksSS]
   omega
  ·
   rw [e, wrap_succ (by omega), e2]
   refine Ev.bind (heldByteS_ev a x.length h0 (by omega)) (ev_neg (by omega) ?_)
   have := ih (a + (x.length : Int)) (pre ++ [marks a x.length]) (by omega) (fun r h => hr r (List.mem_cons_of_mem _ h)) (by omega) (by simp; omega)
   rw [List.length_append, List.length_singleton] at this
   exact this
theorem heldStack_ev (n : Nat) (h : List (List Int)) (hn : n ≤ 2097152) (hh : h.length ≤ 2097152) (hr : ∀ r ∈ h, r.length ≤ 1048576) : Ev (fun k => laws_heldStack.f k (marksI 1 n) (marksSS (1 + (n : Int)) h) 1) (endSS (1 + (n : Int)) h) := by
 unfold laws_heldStack.f
 have hg := endSS_ge h (1 + (n : Int))
 have e := heldSS_l0 h (1 + (n : Int)) [] (by omega) hr (by omega) (by simp; omega)
 exact Ev.bind (heldIntS_ev 1 n (by omega) (by omega)) (ev_neg (by omega) (Ev.bind e (ev_neg (by omega) (Ev.now _))))

attribute [local congr] bind_lazy ite_lazy
theorem FnExactStackOf (l : List (List Int)) (hl : l.length ≤ 9223372036854775807) (hr : ∀ r ∈ l, r.length ≤ 9223372036854775807 ∧ ∀ n ∈ r, (Lit.int .u8 n).wf = true) :
  (∃ k s, laws_szByteSS.f k l 1048576 = some s ∧ s < 0) ∨
  ∃ k s r1 r2 r3 p n0 q q2 m0 m1, laws_szByteSS.f k l 1048576 = some s ∧ ¬ s < 0 ∧ laws_toByteSS.f k l = some l ∧ spec_StackOf.f k l = some (r1, r2, r3) ∧ impl_StackOf.f k l = some (r1, r2, r3) ∧ laws_eqStack.f k r1 r2 r1 r2 = some true ∧ laws_eqByteSS.f k l l = some true ∧ laws_markByteSS.f k l 1 = some (p, n0) ∧ ¬ p < 0 ∧ laws_markIntS.f k r1 1 = some (q, m0) ∧ laws_markByteSS.f k r2 q = some (q2, m1) ∧ ¬ q2 < 0 ∧ laws_heldStack.f k m0 m1 1 = some q2 ∧ m0.length = r1.length ∧ m1.length = r2.length := by
 obtain ⟨s, ⟨K1, e1⟩, s1, s2⟩ := szByteSS_ev l hl (fun r h => (hr r h).1) 1048576 (by omega) (by omega)
 by_cases hs : s < 0
 ·
  exact .inl ⟨K1, s, e1 K1 (Nat.le_refl _), hs⟩
 obtain ⟨la, qa⟩ := s2 (by omega)
 have hk : RowsOk l := fun r h => ⟨bytes_of_wf (hr r h).2, qa r h⟩
 obtain ⟨K2, e2⟩ := toByteSS_ev l la qa
 obtain ⟨r1, r2, r3, ⟨K3, e3⟩, ⟨K4, e4⟩, q1, q2, q3⟩ := stackOf_both l la hk
 obtain ⟨K5, e5⟩ := eqStack_self r1 r2 (by omega) (by omega) (fun r hr => (q3 r hr).2)
 obtain ⟨K6, e6⟩ := eqByteSS_same l la qa
 have f1 := endSS_ge l 1
 obtain ⟨K7, e7⟩ := markSS_ev l 1 (by omega) qa (by omega)
 obtain ⟨K12, e12⟩ := markIntS_ev r1 1 (by omega) (by omega)
 have f3 := endSS_ge r2 (1 + (r1.length : Int))
 obtain ⟨K13, e13⟩ := markSS_ev r2 (1 + (r1.length : Int)) (by omega) (fun r hr => (q3 r hr).2) (by omega)
 obtain ⟨K14, e14⟩ := heldStack_ev r1.length r2 (by omega) (by omega) (fun r hr => (q3 r hr).2)
 exact .inr ⟨K1 + K2 + K3 + K4 + K5 + K6 + K7 + K12 + K13 + K14, s, r1, r2, r3, _, _, _, _, _, _, e1 _ (by omega), hs, e2 _ (by omega), e3 _ (by omega), e4 _ (by omega), e5 _ (by omega), e6 _ (by omega), e7 _ (by omega), by omega, e12 _ (by omega), e13 _ (by omega), by omega, e14 _ (by omega), by simp [marksI], marksSS_length _ _⟩

end Go.Proofs.Ytjfhbmbiegccnaa.Pure
