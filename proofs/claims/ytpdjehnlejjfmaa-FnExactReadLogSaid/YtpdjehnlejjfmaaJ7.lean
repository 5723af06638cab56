/- An operation as bytes, by both. -/
import Derived.Test.YtpdjehnlejjfmaaJ6
set_option linter.unusedVariables false
set_option linter.unusedSimpArgs false
namespace Go.Proofs.Ytpdjehnlejjfmaa.D
open Go.RowKit
set_option maxRecDepth 100000
set_option maxHeartbeats 4000000
set_option linter.unusedVariables false
set_option linter.unusedSimpArgs false

def nums (o : OpV) : List Int := [o.actor, o.seq, o.time, o.kind, o.obj, (zig o.n : Int), o.undo, o.atT, o.atA]
theorem s_l08Sign (d : Int) (h : -4611686018427387903 ≤ d ∧ d ≤ 4611686018427387903) : CallD Try.prog id_spec_l08Sign [vI .i64 d] [] (vI .i64 (zig d)) [] := by
 refine F_spec_l08Sign ?_
 try (conv => whnf)
 repeat' (first
  | (refine Pick.mk ?_ ?_ ?_; rotate_left; (focus ((refine wid ?_ ?_ <;> omega))); conv => whnf)
  | (refine SeqJ.thru ?_; conv => whnf)
  | (refine br_dec (fun _ => ?_) (fun _ => ?_) <;> first | (exfalso; omega) | contradiction | conv => whnf)
  | (refine br_not ?_; conv => whnf)
  | (refine br_bne (fun _ => ?_) (fun _ => ?_) <;> first | (exfalso; omega) | contradiction | conv => whnf)
  | (refine br_beq (fun _ => ?_) (fun _ => ?_) <;> first | (exfalso; omega) | contradiction | conv => whnf))
 all_goals
  refine Out.mk true [] [] ?_
  try (conv => whnf)
 all_goals
  first
  | exact ⟨by simp only [zig]; rw [if_pos (by omega)]; congr; omega, rfl⟩
  | exact ⟨by simp only [zig]; rw [if_neg (by omega)]; congr; omega, rfl⟩
end Go.Proofs.Ytpdjehnlejjfmaa.D
/- Logs in plain: when one is in order, and what the program's book of it holds. -/
namespace Go.Proofs.Ytpdjehnlejjfmaa.D
open Go.RowKit
set_option maxRecDepth 100000
set_option linter.unusedVariables false
set_option linter.unusedSimpArgs false

theorem snoc_ind {α : Type} {p : List α → Prop} (h0 : p []) (hs : ∀ l x, p l → p (l ++ [x])) : ∀ l, p l := by
 have : ∀ n (l : List α), l.length = n → p l := by
  intro n
  induction n with
  | zero => intro l hl; rw [List.eq_nil_of_length_eq_zero hl]; exact h0
  | succ n ih =>
   intro l hl
   have hne : l ≠ [] := by rintro rfl; simp at hl
   rw [← List.dropLast_concat_getLast hne]
   exact hs _ _ (ih _ (by simp [hl]))
 exact fun l => this _ l rfl
def own (l : List OpV) (a : Int) : List OpV := l.filter fun o => decide (o.actor = a)
theorem own_snoc (l : List OpV) (o : OpV) (a : Int) : own (l ++ [o]) a = own l a ++ if o.actor = a then [o] else [] := by
 simp only [own, List.filter_append, List.filter_cons, List.filter_nil, decide_eq_true_eq]
theorem own_take {l : List OpV} {i : Nat} (h : i < l.length) (a : Int) : own (l.take (i + 1)) a = own (l.take i) a ++ if l[i].actor = a then [l[i]] else [] := by
 rw [List.take_succ_eq_append_getElem h, own_snoc]
theorem own_le (l : List OpV) (a : Int) : (own l a).length ≤ l.length := List.length_filter_le _ _
def thI (k : Int) : Int := if k = 3 then 2 else k
def thS (k : Int) : Int := if k = 1 then 1 else if k = 2 ∨ k = 3 then 2 else 3
theorem OpOk.kinds {o : OpV} (h : OpOk o) : 1 ≤ o.kind ∧ o.kind ≤ 4 := by
 rcases h.kind with ⟨k, _⟩ | ⟨k, _⟩ | ⟨k, _⟩ | ⟨k, _⟩ <;> omega
theorem thI_ne {k : Int} (h : 1 ≤ k ∧ k ≤ 4) : thI k ≠ 0 := by unfold thI; split <;> omega
theorem thS_ne {k : Int} (h : 1 ≤ k ∧ k ≤ 4) : thS k ≠ 0 := by unfold thS; split; omega; split <;> omega
theorem th_iff {a b : Int} (ha : 1 ≤ a ∧ a ≤ 4) (hb : 1 ≤ b ∧ b ≤ 4) : thI a = thI b ↔ thS a = thS b := by
 unfold thI thS
 split <;> split <;> split <;> (try split) <;> (try split) <;> (try split) <;> omega
def SameTh (th : Int → Int) (l : List OpV) : Prop := ∀ a ∈ l, ∀ b ∈ l, a.obj = b.obj → th a.kind = th b.kind
theorem SameTh.iff {l : List OpV} (hl : ∀ o ∈ l, OpOk o) : SameTh thI l ↔ SameTh thS l :=
 ⟨fun h a ha b hb e => (th_iff (hl a ha).kinds (hl b hb).kinds).1 (h a ha b hb e), fun h a ha b hb e => (th_iff (hl a ha).kinds (hl b hb).kinds).2 (h a ha b hb e)⟩
theorem SameTh.snoc {th : Int → Int} {l : List OpV} {o : OpV} (h : SameTh th l) (ho : ∀ a ∈ l, a.obj = o.obj → th a.kind = th o.kind) : SameTh th (l ++ [o]) := by
 intro a ha b hb e
 simp only [List.mem_append, List.mem_singleton] at ha hb
 rcases ha with ha | rfl <;> rcases hb with hb | rfl
 ·exact h a ha b hb e
 ·exact ho a ha e
 ·exact (ho b hb e.symm).symm
 ·rfl
theorem SameTh.of_snoc {th : Int → Int} {l : List OpV} {o : OpV} (h : SameTh th (l ++ [o])) : ∀ a ∈ l, a.obj = o.obj → th a.kind = th o.kind :=
 fun a ha e => h a (by simp [ha]) o (by simp) e
theorem SameTh.sub {th : Int → Int} {l m : List OpV} (h : SameTh th l) (hm : ∀ o ∈ m, o ∈ l) : SameTh th m := fun a ha b hb e => h a (hm a ha) b (hm b hb) e
def kdOf (th : Int → Int) (l : List OpV) : List Int := l.foldl (fun k o => k.set o.obj.toNat (th o.kind)) (List.replicate 101 0)
theorem kdOf_snoc (th : Int → Int) (l : List OpV) (o : OpV) : kdOf th (l ++ [o]) = (kdOf th l).set o.obj.toNat (th o.kind) := by simp [kdOf]
@[simp] theorem kdOf_length (th : Int → Int) (l : List OpV) : (kdOf th l).length = 101 := by
 induction l using snoc_ind with
 | h0 => simp [kdOf]
 | hs l o ih => rw [kdOf_snoc]; simpa using ih
theorem kdOf_val (th : Int → Int) {j : Nat} (hj : j < 101) : ∀ (l : List OpV), (∀ o ∈ l, OpOk o) → (∀ a ∈ l, a.obj ≠ j) ∧ (kdOf th l).getD j 0 = 0 ∨ ∃ a ∈ l, a.obj = j ∧ (kdOf th l).getD j 0 = th a.kind := by
 intro l
 induction l using snoc_ind with
 | h0 => intro _; left; exact ⟨by simp, by simp [kdOf, List.getD, hj, -List.reduceReplicate]⟩
 | hs l o ih =>
  intro hl
  have ho := (hl o (by simp)).obj
  rw [kdOf_snoc]
  by_cases e : o.obj = j
  ·right
   refine ⟨o, by simp, e, ?_⟩
   have : o.obj.toNat = j := by omega
   rw [this]; simp [List.getD, hj]
  ·have hne : o.obj.toNat ≠ j := by omega
   have hg : ((kdOf th l).set o.obj.toNat (th o.kind)).getD j 0 = (kdOf th l).getD j 0 := by simp [List.getD, List.getElem?_set, hne]
   rw [hg]
   rcases ih fun o h => hl o (by simp [h]) with ⟨h1, h2⟩ | ⟨a, h1, h2, h3⟩
   ·left
    refine ⟨fun a ha => ?_, h2⟩
    simp only [List.mem_append, List.mem_singleton] at ha
    rcases ha with ha | rfl
    ·exact h1 a ha
    ·exact e
   ·exact .inr ⟨a, by simp [h1], h2, h3⟩
theorem kd_iff {th : Int → Int} (hth : ∀ k, 1 ≤ k ∧ k ≤ 4 → th k ≠ 0) {l : List OpV} {o : OpV} (hl : ∀ o ∈ l, OpOk o) (hs : SameTh th l) (ho : OpOk o) :
  ((kdOf th l).getD o.obj.toNat 0 = 0 ∨ (kdOf th l).getD o.obj.toNat 0 = th o.kind) ↔ ∀ a ∈ l, a.obj = o.obj → th a.kind = th o.kind := by
 have hob := ho.obj
 have hj : o.obj.toNat < 101 := by omega
 have hc : ((o.obj.toNat : Nat) : Int) = o.obj := by omega
 rcases kdOf_val th hj l hl with ⟨h1, h2⟩ | ⟨a, h1, h2, h3⟩
 ·rw [h2]
  refine ⟨fun _ a ha e => absurd (e.trans hc.symm) (h1 a ha), fun _ => .inl rfl⟩
 ·rw [h3]
  constructor
  ·rintro (h | h) b hb e
   ·exact absurd h (hth _ (hl a h1).kinds)
   ·rw [← h]; exact hs b hb a h1 (by rw [h2, hc]; exact e)
  ·intro h; exact .inr (h a h1 (by omega))
def Good1 (l : List OpV) (i : Nat) : Prop := ∀ j (h : j < l.length), j < i → OpOk l[j] ∧ (0 < j → (l[j - 1]'(by omega)).actor ≤ l[j].actor) ∧ l[j].seq = (own (l.take j) l[j].actor).length + 1
theorem Good1.zero (l : List OpV) : Good1 l 0 := fun j _ h => by omega
theorem Good1.step {l : List OpV} {i : Nat} (hi : i < l.length) (h : Good1 l i) (h1 : OpOk l[i]) (h2 : 0 < i → (l[i - 1]'(by omega)).actor ≤ l[i].actor) (h3 : l[i].seq = (own (l.take i) l[i].actor).length + 1) : Good1 l (i + 1) := fun j hj hlt => by
 rcases Nat.lt_or_ge j i with g | g
 ·exact h j hj g
 ·obtain rfl : j = i := by omega
  exact ⟨h1, h2, h3⟩
theorem Good1.at {l : List OpV} (h : Good1 l l.length) {i : Nat} (hi : i < l.length) : OpOk l[i] ∧ (0 < i → (l[i - 1]'(by omega)).actor ≤ l[i].actor) ∧ l[i].seq = (own (l.take i) l[i].actor).length + 1 := h i hi hi
theorem Good1.ok {l : List OpV} {i : Nat} (h : Good1 l i) : ∀ o ∈ l.take i, OpOk o := fun o ho => by
 obtain ⟨j, hj, rfl⟩ := List.mem_iff_getElem.1 ho
 simp at hj
 rw [List.getElem_take]
 exact (h j (by omega) (by omega)).1
theorem Good1.all {l : List OpV} (h : Good1 l l.length) : ∀ o ∈ l, OpOk o := by have := h.ok; rwa [List.take_length] at this
theorem Good1.le {l : List OpV} {i j : Nat} (h : Good1 l i) (hj : j ≤ i) : Good1 l j := fun k hk hlt => h k hk (by omega)
def CauseAt (l : List OpV) (o : OpV) (a : Nat) : Prop := o.deps.getD a 0 ≤ (own l a).length ∧ (0 < o.deps.getD a 0 → ∀ p, (own l a)[(o.deps.getD a 0 - 1).toNat]? = some p → stLt p.time p.actor o.time o.actor)
def Cause (l : List OpV) (o : OpV) : Prop := ∀ a : Nat, a < 16 → CauseAt l o a
noncomputable instance (l : List OpV) (o : OpV) : Decidable (Cause l o) := Classical.propDecidable _
structure LogOk (l : List OpV) : Prop where
 len : l.length ≤ 1024
 good : Good1 l l.length
 same : SameTh thI l
 cause : ∀ o ∈ l, Cause l o
noncomputable instance (l : List OpV) : Decidable (LogOk l) := Classical.propDecidable _
structure BookV where
 of : List (List OpV)
 kd : List Int
 size : Int
 tT : Int
 tA : Int
def BookV.zero : BookV := ⟨List.replicate 16 [], List.replicate 101 0, 0, 0, 0⟩
def BookV.put (b : BookV) (o : OpV) : BookV :=
 ⟨b.of.set o.actor.toNat (b.of.getD o.actor.toNat [] ++ [o]), b.kd.set o.obj.toNat (thI o.kind), b.size + 1, if stLt b.tT b.tA o.time o.actor then o.time else b.tT, if stLt b.tT b.tA o.time o.actor then o.actor else b.tA⟩
def bookOf (l : List OpV) : BookV := l.foldl BookV.put .zero
theorem bookOf_snoc (l : List OpV) (o : OpV) : bookOf (l ++ [o]) = (bookOf l).put o := by simp [bookOf]
theorem bookOf_take {l : List OpV} {i : Nat} (h : i < l.length) : bookOf (l.take (i + 1)) = (bookOf (l.take i)).put l[i] := by rw [List.take_succ_eq_append_getElem h, bookOf_snoc]
@[simp] theorem book_of_length (l : List OpV) : (bookOf l).of.length = 16 := by
 induction l using snoc_ind with
 | h0 => rfl
 | hs l o ih => rw [bookOf_snoc]; simpa [BookV.put] using ih
theorem book_kd (l : List OpV) : (bookOf l).kd = kdOf thI l := by
 induction l using snoc_ind with
 | h0 => rfl
 | hs l o ih => rw [bookOf_snoc, kdOf_snoc, ← ih]; rfl
theorem book_size (l : List OpV) : (bookOf l).size = l.length := by
 induction l using snoc_ind with
 | h0 => rfl
 | hs l o ih => rw [bookOf_snoc]; simp only [BookV.put, ih]; simp
theorem book_of {a : Nat} (ha : a < 16) : ∀ (l : List OpV), (∀ o ∈ l, OpOk o) → (bookOf l).of.getD a [] = own l a := by
 intro l
 induction l using snoc_ind with
 | h0 => intro _; simp [bookOf, BookV.zero, own, List.getD, ha, -List.reduceReplicate]
 | hs l o ih =>
  intro hl
  have ho := (hl o (by simp)).st.2
  have ih := ih fun o h => hl o (by simp [h])
  rw [bookOf_snoc, own_snoc]
  simp only [BookV.put]
  by_cases e : o.actor = a
  ·have : o.actor.toNat = a := by omega
   rw [if_pos e, this, ih]
   simp [List.getD, ha]
  ·have : o.actor.toNat ≠ a := by omega
   rw [if_neg e, List.append_nil, ← ih]
   simp [List.getD, List.getElem?_set, this]

theorem split_own : ∀ (l : List OpV) (a : Int), l.Pairwise (fun x y => x.actor ≤ y.actor) → ∃ p q, l = p ++ own l a ++ q ∧ (∀ o ∈ p, o.actor < a) ∧ (∀ o ∈ q, a < o.actor)
 | [], a, _ => ⟨[], [], by simp [own], by simp, by simp⟩
 |o :: l, a, h => by
  rw [List.pairwise_cons] at h
  obtain ⟨p, q, h1, h2, h3⟩ := split_own l a h.2
  by_cases e : o.actor = a
  ·have hp : p = [] := by
    cases p with
    | nil => rfl
    | cons x p =>
     have := h2 x (by simp)
     have := h.1 x (by rw [h1]; simp)
     omega
   subst hp
   refine ⟨[], q, ?_, by simp, h3⟩
   have : own (o :: l) a = o :: own l a := by simp [own, List.filter_cons, e]
   rw [this]; simpa using h1
  ·have e2 : own (o :: l) a = own l a := by simp [own, List.filter_cons, e]
   rcases Int.lt_or_gt_of_ne e with g | g
   ·exact ⟨o :: p, q, by rw [e2]; simpa using h1, fun x hx => (List.mem_cons.1 hx).elim (fun e => e ▸ g) (h2 x), h3⟩
   ·refine ⟨[], o :: l, ?_, by simp, fun x hx => ?_⟩
    ·have : own l a = [] := by
      rw [own, List.filter_eq_nil_iff]
      intro x hx
      have := h.1 x hx
      simp; omega
     rw [e2, this]; rfl
    ·rcases List.mem_cons.1 hx with rfl | hx
     ·exact g
     ·have := h.1 x hx; omega
theorem Good1.sorted {l : List OpV} (h : Good1 l l.length) : l.Pairwise (fun x y => x.actor ≤ y.actor) := by
 rw [List.pairwise_iff_getElem]
 intro i j hi hj hij
 have : ∀ n, i + n < l.length → ∀ (h1 : i < l.length) (h2 : i + n < l.length), l[i].actor ≤ l[i + n].actor := by
  intro n
  induction n with
  | zero => intro _ _ _; exact Int.le_refl _
  | succ n ih =>
   intro hn h1 h2
   have g1 := ih (by omega) h1 (by omega)
   have g2 := (h.at h2).2.1 (by omega)
   have e : i + (n + 1) - 1 = i + n := by omega
   simp only [e] at g2
   omega
 have g := this (j - i) (by omega) hi (by omega)
 have e : i + (j - i) = j := by omega
 simp only [e] at g
 exact g
def cnts (l : List OpV) : List Int := (List.range 16).map fun a : Nat => ((own l a).length : Int)
@[simp] theorem cnts_length (l : List OpV) : (cnts l).length = 16 := by simp [cnts]
theorem cnts_get (l : List OpV) {a : Nat} (h : a < 16) : (cnts l)[a]'(by simpa using h) = (own l a).length := by simp [cnts]
theorem cnts_set {l : List OpV} {i : Nat} (h : i < l.length) (ha : actOk l[i].actor) : (cnts (l.take i)).set l[i].actor.toNat ((own (l.take i) l[i].actor).length + 1) = cnts (l.take (i + 1)) := by
 apply List.ext_getElem
 ·simp
 ·intro n h1 h2
  simp only [List.length_set, cnts_length] at h1
  rw [List.getElem_set, cnts_get _ h1, cnts_get _ h1, own_take h]
  split
  ·rename_i e
   have : l[i].actor = n := by omega
   rw [if_pos this, this]; simp
  ·rename_i e
   rw [if_neg (by omega)]; simp
end Go.Proofs.Ytpdjehnlejjfmaa.D
/- A log's bytes, plainly. -/
namespace Go.Proofs.Ytpdjehnlejjfmaa.D
open Go.RowKit
set_option maxRecDepth 100000
set_option linter.unusedVariables false
set_option linter.unusedSimpArgs false

def colV (o : OpV) (c : Nat) : Int := (nums o ++ o.deps).getD c 0
def colL (l : List OpV) (c : Nat) : List Int := l.map fun o => colV o c
@[simp] theorem colL_length (l : List OpV) (c : Nat) : (colL l c).length = l.length := by simp [colL]
def colsB (l : List OpV) : Nat → List UInt8 | 0 => [] | n + 1 => colsB l n ++ putR (colL l n)
def keysOf (l : List OpV) : List (List UInt8) := l.map fun o => o.key
def textsOf (l : List OpV) : List (List UInt8) := l.map fun o => o.text
@[simp] theorem keysOf_length (l : List OpV) : (keysOf l).length = l.length := by simp [keysOf]
@[simp] theorem textsOf_length (l : List OpV) : (textsOf l).length = l.length := by simp [textsOf]
def logB0 (l : List OpV) : List UInt8 := colsB l 25 ++ putT (keysOf l) ++ putT (textsOf l)
def logB (l : List OpV) : List UInt8 := logB0 l ++ four (sumH 2166136261 (logB0 l))
theorem nums_le {o : OpV} (h : OpOk o) : ∀ x ∈ nums o ++ o.deps, 0 ≤ x ∧ x ≤ 2000000000000 := by
 have hk := h.kinds
 obtain ⟨⟨t1, a1⟩, s, v, _, ob, n, u, _, at_, k⟩ := h
 have hz : (zig o.n : Int) ≤ 2000000000000 := by unfold zig; split <;> omega
 have hA : 0 ≤ o.atT ∧ o.atT ≤ 1000000000000 ∧ 0 ≤ o.atA ∧ o.atA < 16 := by
  rcases at_ with ⟨h1, h2⟩ | ⟨⟨h1, h2⟩, _⟩ <;> omega
 intro x hx
 rcases List.mem_append.1 hx with hx | hx
 ·simp only [nums, List.mem_cons, List.not_mem_nil, or_false] at hx
  rcases hx with rfl | rfl | rfl | rfl | rfl | rfl | rfl | rfl | rfl <;> omega
 ·have := v.2 x hx
  unfold cntOk at this
  omega
theorem colV_le {o : OpV} (h : OpOk o) {c : Nat} (hc : c < 25) : 0 ≤ colV o c ∧ colV o c ≤ 2000000000000 := by
 have hl : (nums o ++ o.deps).length = 25 := by simp [nums, h.vec.1]
 unfold colV
 rw [List.getD_eq_getElem?_getD, List.getElem?_eq_getElem (by omega)]
 exact nums_le h _ (List.getElem_mem _)
theorem colL_le {l : List OpV} (h : ∀ o ∈ l, OpOk o) {c : Nat} (hc : c < 25) : ∀ x ∈ colL l c, 0 ≤ x ∧ x ≤ 2000000000000 := fun x hx => by
 obtain ⟨o, ho, rfl⟩ := List.mem_map.1 hx
 exact colV_le (h o ho) hc
theorem colL_in {l : List OpV} (h : ∀ o ∈ l, OpOk o) {c : Nat} (hc : c < 25) : ∀ x ∈ colL l c, inM x := fun x hx => by
 have := colL_le h hc x hx
 unfold inM M4; omega
theorem putRs_len15 : ∀ (n : Nat) (l : List Int), l.length ≤ n → (∀ x ∈ l, 0 ≤ x ∧ x ≤ 2000000000000) → l.length ≤ 1024 → (putRs l).length ≤ 15 * l.length := by
 intro n
 induction n with
 | zero => intro l h _ _; have : l = [] := List.eq_nil_of_length_eq_zero (by omega); subst this; simp [putRs_nil]
 | succ n ih =>
  intro l h hx hl
  rcases Nat.eq_zero_or_pos l.length with h0 | h0
  ·have : l = [] := List.eq_nil_of_length_eq_zero h0; subst this; simp [putRs_nil]
  ·have e := putRs_step (l := l) h0
   have b := hx _ (List.getElem_mem h0)
   have hr := rl_le l
   have hp := rl_pos (s := l) (by intro e; rw [e] at h0; simp at h0)
   simp only [List.drop_zero, Nat.zero_add] at e
   have h2 := ih (l.drop (rl l)) (by simp; omega) (fun x hx' => hx x (List.mem_of_mem_drop hx')) (by simp; omega)
   have b1 : (put (l[0]).toNat).length ≤ 6 := put_le 6 _ (by omega) (by omega)
   have b2 : (put (rl l)).length ≤ 2 := put_le 2 _ (by omega) (by omega)
   have b3 : (if h : 1 < l.length then put (zig (l[1] - l[0])) else []).length ≤ 7 := by
    split
    ·rename_i h1
     have c := hx _ (List.getElem_mem h1)
     refine put_le 7 _ ?_ (by omega)
     unfold zig; split <;> omega
    ·simp
   have := congrArg List.length e
   simp only [List.length_append, List.length_drop] at this h2
   rw [this]
   have : 15 * (l.length - rl l) + 15 * 1 ≤ 15 * l.length := by omega
   omega
theorem colsB_len {l : List OpV} (h : ∀ o ∈ l, OpOk o) (hl : l.length ≤ 1024) : ∀ n, n ≤ 25 → (colsB l n).length ≤ n * 15369
 | 0, _ => by simp [colsB]
 |n + 1, hn => by
  have h1 := colsB_len h hl n (by omega)
  have h2 := putRs_len15 _ (colL l n) (Nat.le_refl _) (colL_le h (by omega)) (by simpa using hl)
  have h3 := put_len (n := (colL l n).length) (by simp; omega)
  simp only [colsB, List.length_append, putR]
  simp only [colL_length] at h2 h3 ⊢
  omega
theorem words_total {l : List OpV} (h : ∀ o ∈ l, OpOk o) : total (keysOf l) ≤ 200 * l.length ∧ total (textsOf l) ≤ 200 * l.length := by
 induction l with
 | nil => simp [keysOf, textsOf, total]
 | cons o l ih =>
  have h1 := ih fun o ho => h o (by simp [ho])
  have h2 := (h o (by simp)).words
  simp only [keysOf, textsOf, List.map_cons, total_cons, List.length_cons] at h1 ⊢
  omega
theorem putT_len200 {ts : List (List UInt8)} (hl : ts.length ≤ 1024) (ht : total ts ≤ 200 * ts.length) : (putT ts).length ≤ 223300 := by
 have h2 := putTs_len ts [] (by omega)
 have h3 := put_len (n := ts.length) (by omega)
 rw [putT, List.length_append]
 omega
theorem logB0_len {l : List OpV} (h : LogOk l) : (logB0 l).length ≤ 1048000 := by
 have hl := h.len
 have h1 := colsB_len h.good.all hl 25 (by omega)
 have h2 := words_total h.good.all
 have h3 := putT_len200 (ts := keysOf l) (by simpa using hl) (by simpa using h2.1)
 have h4 := putT_len200 (ts := textsOf l) (by simpa using hl) (by simpa using h2.2)
 simp only [logB0, List.length_append]
 omega
theorem logB_len {l : List OpV} (h : LogOk l) : (logB l).length ≤ 1048004 := by
 have := logB0_len h
 simp only [logB, List.length_append]
 simp [four]; omega
end Go.Proofs.Ytpdjehnlejjfmaa.D
/- Lists of numbers read, by the program. -/
namespace Go.Proofs.Ytpdjehnlejjfmaa.D
open Go.RowKit
set_option maxRecDepth 100000
set_option maxHeartbeats 4000000
set_option linter.unusedVariables false
set_option linter.unusedSimpArgs false

def RunP (l : List UInt8) (a : Nat) : SV → List Row → Prop := fun r Lo =>
 ∃ (b : Nat) (bad : Bool) (xs : List Int), Lo = [rdR l b bad, .own 1 (xs.map inD)] ∧ r = .one (.os (.v 1) 1 0 xs.length) ∧ b ≤ l.length ∧ match getR l a with | some (ys, c) => bad = false ∧ xs = ys ∧ b = c | none => bad = true
theorem zag_le {z : Nat} (h : z ≤ 4611686018427387903) : -2305843009213693952 ≤ zag z ∧ zag z ≤ 2305843009213693952 := by
 unfold zag
 split <;> omega
theorem and1 (z : Nat) (h : z < 2 ^ 63) : bits .and .i64 (z : Int) 1 = ((z % 2 : Nat) : Int) := by
 have := and_i64 (a := z) (b := 1) (by omega) (by omega)
 have e : z &&& 1 = z % 2 := Nat.and_two_pow_sub_one_eq_mod z 1
 rw [e] at this; exact this
theorem i_zag (z : Nat) (h : z ≤ 4611686018427387903) : CallD Try.prog id_impl_zag [vI .i64 z] [] (vI .i64 (zag z)) [] := by
 refine F_impl_zag ?_
 have h1 := and1 z (by omega)
 try (conv => whnf)
 repeat' (first
  | (refine Need.mk ?_ ?_; (focus (omega)); conv => whnf)
  | (refine Pick.mk ?_ ?_ ?_; rotate_left; (focus (first | assumption | (refine wid ?_ ?_ <;> omega) | (refine wdiv ?_ ?_ ?_ <;> omega))); conv => whnf)
  | (refine SeqJ.thru ?_; conv => whnf)
  | (refine br_dec (fun _ => ?_) (fun _ => ?_) <;> first | (exfalso; omega) | contradiction | conv => whnf)
  | (refine br_not ?_; conv => whnf)
  | (refine br_bne (fun _ => ?_) (fun _ => ?_) <;> first | (exfalso; omega) | contradiction | conv => whnf)
  | (refine br_beq (fun _ => ?_) (fun _ => ?_) <;> first | (exfalso; omega) | contradiction | conv => whnf))
 ·refine Out.mk true [] [] ?_
  try (conv => whnf)
  exact ⟨by rw [zag, if_pos (by omega)]; congr; omega, rfl⟩
 ·refine Out.mk true [] [] ?_
  try (conv => whnf)
  exact ⟨by rw [zag, if_neg (by omega)]; congr, rfl⟩
theorem seq_step (y d : Int) (m : Nat) : seq y d (m + 1) = y :: seq (y + d) d m := rfl
theorem rsN_0 (l : List UInt8) (a : Nat) : rsN l 0 a = some ([], a) := by rw [rsN, if_pos rfl]
theorem rsN_none1 {l : List UInt8} {r a : Nat} (hr : 0 < r) (h : get l a = none) : rsN l r a = none := by rw [rsN, if_neg (by omega), h]
theorem rsN_none2 {l : List UInt8} {r a v b : Nat} (hr : 0 < r) (h : get l a = some (v, b)) (h2 : get l b = none) : rsN l r a = none := by rw [rsN, if_neg (by omega)]; simp only [h, h2]
theorem rsN_none3 {l : List UInt8} {r a v b k c : Nat} (hr : 0 < r) (h : get l a = some (v, b)) (h2 : get l b = some (k, c)) (h3 : ¬ ((v : Int) ≤ M4 ∧ 1 ≤ k ∧ k ≤ r)) : rsN l r a = none := by
 rw [rsN, if_neg (by omega)]; simp only [h, h2]; rw [dif_neg h3]
theorem rsN_one {l : List UInt8} {r a v b c : Nat} (hr : 0 < r) (h : get l a = some (v, b)) (h2 : get l b = some (1, c)) (h3 : (v : Int) ≤ M4) : rsN l r a = (rsN l (r - 1) c).map fun x => ((v : Int) :: x.1, x.2) := by
 rw [rsN, if_neg (by omega)]; simp only [h, h2]; rw [dif_pos ⟨h3, by omega, by omega⟩]; simp
theorem rsN_none4 {l : List UInt8} {r a v b k c : Nat} (hr : 0 < r) (h : get l a = some (v, b)) (h2 : get l b = some (k, c)) (hk : k ≠ 1) (h4 : get l c = none) : rsN l r a = none := by
 rw [rsN, if_neg (by omega)]; simp only [h, h2]; split
 ·simp [hk, h4]
 ·rfl
theorem rsN_none5 {l : List UInt8} {r a v b k c z d : Nat} (hr : 0 < r) (h : get l a = some (v, b)) (h2 : get l b = some (k, c)) (hk : k ≠ 1) (h4 : get l c = some (z, d)) (h5 : ¬ ∀ x ∈ seq v (zag z) k, inM x) : rsN l r a = none := by
 rw [rsN, if_neg (by omega)]; simp only [h, h2]; split
 ·simp [hk, h4, h5]
 ·rfl
theorem rsN_more {l : List UInt8} {r a v b k c z d : Nat} (hr : 0 < r) (h : get l a = some (v, b)) (h2 : get l b = some (k, c)) (h3 : (v : Int) ≤ M4 ∧ 1 ≤ k ∧ k ≤ r) (hk : k ≠ 1) (h4 : get l c = some (z, d)) (h5 : ∀ x ∈ seq v (zag z) k, inM x) :
  rsN l r a = (rsN l (r - k) d).map fun x => (seq v (zag z) k ++ x.1, x.2) := by
 rw [rsN, if_neg (by omega)]; simp only [h, h2]; rw [dif_pos h3]; simp only [if_neg hk, h4]; rw [if_pos h5]
theorem i_runs (l : List UInt8) (a : Nat) (hl : l.length ≤ 2 ^ 30) (ha : a ≤ l.length) :
  CallM Try.prog id_impl_reader_runs [.one (.ptr 0 0)] [rdR l a false] [] false (RunP l a) := by
 refine F_impl_reader_runs ?_
 try (conv => whnf)
 cases hg : get l a with
 | none =>
  have hT : getR l a = none := by rw [getR, getR0, hg]
  refine Hand.mk [] ?_
  try (conv => whnf)
  refine CallW.n (i_numN hg (by omega) ha) ?_
  rintro _ _ ⟨b, rfl, rfl, hb⟩
  try (conv => whnf)
  repeat' (first
   | (refine SeqJ.thru ?_; conv => whnf)
   | (refine br_dec (fun _ => ?_) (fun _ => ?_) <;> first | (exfalso; omega) | contradiction | conv => whnf)
   | (refine br_not ?_; conv => whnf)
   | (refine br_bne (fun _ => ?_) (fun _ => ?_) <;> first | (exfalso; omega) | contradiction | conv => whnf)
   | (refine br_beq (fun _ => ?_) (fun _ => ?_) <;> first | (exfalso; omega) | contradiction | conv => whnf))
  refine Out.mk false [0, 1, 2, 3, 4] [(0, 1)] ?_
  try (conv => whnf)
  exact ⟨b, true, [], rfl, rfl, hb, by rw [hT]⟩
 | some r =>
  obtain ⟨n, b⟩ := r
  obtain ⟨g1, g2, g3, g4, g5⟩ := get_inv hg
  simp only [MaxN] at g4
  refine Hand.mk [] ?_
  try (conv => whnf)
  refine CallW.n (i_num hg (by omega)) ?_
  rintro _ _ ⟨rfl, rfl⟩
  try (conv => whnf)
  repeat' (first
   | (refine SeqJ.thru ?_; conv => whnf)
   | (refine br_dec (fun _ => ?_) (fun _ => ?_) <;> first | (exfalso; omega) | contradiction | conv => whnf)
   | (refine br_not ?_; conv => whnf)
   | (refine br_bne (fun _ => ?_) (fun _ => ?_) <;> first | (exfalso; omega) | contradiction | conv => whnf)
   | (refine br_beq (fun _ => ?_) (fun _ => ?_) <;> first | (exfalso; omega) | contradiction | conv => whnf))
  ·have hT : getR l a = none := by simp only [getR, getR0, hg]; rw [if_neg (by omega)]
   refine Out.mk false [0, 1, 2, 3, 4] [(0, 1)] ?_
   try (conv => whnf)
   exact ⟨b, true, [], rfl, rfl, g3, by rw [hT]⟩
  ·have hT : getR0 l a = rsN l n b := by simp only [getR0, hg]; rw [if_pos (by omega)]
   refine LoopE.mk (fun (x : Nat × List Int) => mk [(0, .one (.ptr 0 0)), (3, vI .i64 a), (4, vI .i64 n), (5, .one (.os (.v 5000) 1 0 x.2.length))] [(0, rdR l x.1 false), (5000, .own 1 (x.2.map inD))])
    (fun x => x.2.length ≤ n ∧ a ≤ x.1 ∧ x.1 ≤ l.length ∧ (∀ y ∈ x.2, inM y) ∧ getR0 l a = (rsN l (n - x.2.length) x.1).map fun r => (x.2 ++ r.1, r.2)) (fun x => n - x.2.length) (b, []) ⟨by simp, by omega, g3, by simp, by simp [hT]⟩ (LeX.of ?_) ?_
   ·try (conv => whnf)
    repeat (refine Need.mk ?_ ?_; (focus (first | omega | (simp; done))); conv => whnf)
    trivial
   ·rintro ⟨b, xs⟩ ⟨h1, h2, h3, h4, h5⟩
    dsimp only at h1 h2 h3 h4 h5 ⊢
    rcases Nat.lt_or_ge xs.length n with hlt | hge
    ·have hbad : ∀ {c : Nat} {L : List UInt8}, rsN l (n - xs.length) b = none → c ≤ l.length → RunP l a (.one (.os (.v 1) 1 0 0)) [rdR l c true, .own 1 []] := fun h hc => ⟨_, true, [], rfl, rfl, hc, by rw [getR, h5, h]; rfl⟩
     have hpos : 0 < n - xs.length := by omega
     try (conv => whnf)
     repeat' (first
      | (refine SeqJ.thru ?_; conv => whnf)
      | (refine br_dec (fun _ => ?_) (fun _ => ?_) <;> first | (exfalso; omega) | contradiction | conv => whnf)
      | (refine br_not ?_; conv => whnf)
      | (refine br_bne (fun _ => ?_) (fun _ => ?_) <;> first | (exfalso; omega) | contradiction | conv => whnf)
      | (refine br_beq (fun _ => ?_) (fun _ => ?_) <;> first | (exfalso; omega) | contradiction | conv => whnf))
     cases hk : get l b with
     | none =>
      refine Hand.mk [] ?_
      try (conv => whnf)
      refine CallW.n (i_numN hk (by omega) h3) ?_
      rintro _ _ ⟨c, rfl, rfl, hc⟩
      try (conv => whnf)
      refine Hand.mk [] ?_
      try (conv => whnf)
      refine CallW.n (i_numB (by omega) hc) ?_
      rintro _ _ ⟨c, rfl, rfl, hc⟩
      try (conv => whnf)
      repeat' (first
       | (refine SeqJ.thru ?_; conv => whnf)
       | (refine br_dec (fun _ => ?_) (fun _ => ?_) <;> first | (exfalso; omega) | contradiction | conv => whnf)
       | (refine br_not ?_; conv => whnf)
       | (refine br_bne (fun _ => ?_) (fun _ => ?_) <;> first | (exfalso; omega) | contradiction | conv => whnf)
       | (refine br_beq (fun _ => ?_) (fun _ => ?_) <;> first | (exfalso; omega) | contradiction | conv => whnf))
      refine Out.mk false [0, 1, 2, 3, 4] [(0, 1)] ?_
      try (conv => whnf)
      exact ⟨hbad (L := []) (rsN_none1 hpos hk) hc⟩
     | some r =>
      obtain ⟨v, c⟩ := r
      obtain ⟨k1, k2, k3, k4, k5⟩ := get_inv hk
      simp only [MaxN] at k4
      refine Hand.mk [] ?_
      try (conv => whnf)
      refine CallW.n (i_num hk (by omega)) ?_
      rintro _ _ ⟨rfl, rfl⟩
      try (conv => whnf)
      cases hm : get l c with
      | none =>
       refine Hand.mk [] ?_
       try (conv => whnf)
       refine CallW.n (i_numN hm (by omega) k3) ?_
       rintro _ _ ⟨d, rfl, rfl, hc⟩
       try (conv => whnf)
       repeat' (first
        | (refine SeqJ.thru ?_; conv => whnf)
        | (refine br_dec (fun _ => ?_) (fun _ => ?_) <;> first | (exfalso; omega) | contradiction | conv => whnf)
        | (refine br_not ?_; conv => whnf)
        | (refine br_bne (fun _ => ?_) (fun _ => ?_) <;> first | (exfalso; omega) | contradiction | conv => whnf)
        | (refine br_beq (fun _ => ?_) (fun _ => ?_) <;> first | (exfalso; omega) | contradiction | conv => whnf))
       refine Out.mk false [0, 1, 2, 3, 4] [(0, 1)] ?_
       try (conv => whnf)
       exact ⟨hbad (L := []) (rsN_none2 hpos hk hm) hc⟩
      | some r =>
       obtain ⟨k, d⟩ := r
       obtain ⟨m1, m2, m3, m4, m5⟩ := get_inv hm
       simp only [MaxN] at m4
       refine Hand.mk [] ?_
       try (conv => whnf)
       refine CallW.n (i_num hm (by omega)) ?_
       rintro _ _ ⟨rfl, rfl⟩
       by_cases hok : (v : Int) ≤ M4 ∧ 1 ≤ k ∧ k ≤ n - xs.length
       rotate_left
       ·unfold M4 at hok
        try (conv => whnf)
        repeat' (first
         | (refine Pick.mk ?_ ?_ ?_; rotate_left; (focus ((refine wid ?_ ?_ <;> omega))); conv => whnf)
         | (refine SeqJ.thru ?_; conv => whnf)
         | (refine br_dec (fun _ => ?_) (fun _ => ?_) <;> first | (exfalso; omega) | contradiction | conv => whnf)
         | (refine br_not ?_; conv => whnf)
         | (refine br_bne (fun _ => ?_) (fun _ => ?_) <;> first | (exfalso; omega) | contradiction | conv => whnf)
         | (refine br_beq (fun _ => ?_) (fun _ => ?_) <;> first | (exfalso; omega) | contradiction | conv => whnf))
        all_goals
         refine Out.mk false [0, 1, 2, 3, 4] [(0, 1)] ?_
         try (conv => whnf)
         exact ⟨hbad (L := []) (rsN_none3 hpos hk hm (by unfold M4; omega)) m3⟩
       ·have hok' := hok
        unfold M4 at hok'
        have hv : inM v := ⟨by omega, hok.1⟩
        try (conv => whnf)
        repeat' (first
         | (refine Need.mk ?_ ?_; (focus (first | omega | rfl)); conv => whnf)
         | (refine Pick.mk ?_ ?_ ?_; rotate_left; (focus (first | (simp only [List.length_map, List.length_append, List.length_cons, List.length_nil, List.length_replicate, Nat.zero_add]; rfl) | exact map_snoc inD _ _ | (simp only [chunks]; rfl) | (refine wid ?_ ?_ <;> omega) | (refine SlOf.full ?_; first | (simp; done) | (simp; omega)))); conv => whnf)
         | (refine SeqJ.thru ?_; conv => whnf)
         | (refine br_dec (fun _ => ?_) (fun _ => ?_) <;> first | (exfalso; omega) | contradiction | conv => whnf)
         | (refine br_not ?_; conv => whnf)
         | (refine br_bne (fun _ => ?_) (fun _ => ?_) <;> first | (exfalso; omega) | contradiction | conv => whnf)
         | (refine br_beq (fun _ => ?_) (fun _ => ?_) <;> first | (exfalso; omega) | contradiction | conv => whnf))
        ·obtain rfl : k = 1 := by omega
         refine Pick.mk (d, xs ++ [(v : Int)]) ⟨⟨by simp; omega, by omega, m3, ?_, ?_⟩, by simp; omega⟩ (LeX.of ?_)
         ·intro y hy
          rcases List.mem_append.1 hy with hy | hy
          ·exact h4 y hy
          ·simp at hy; subst hy; exact hv
         ·dsimp only
          rw [h5, rsN_one hpos hk hm hok.1, Option.map_map]
          simp only [List.length_append, List.length_singleton, Nat.sub_sub]
          congr 1
          funext r
          simp
         ·try (conv => whnf)
          repeat (refine Need.mk ?_ ?_; (focus (first | omega | (simp; done))); conv => whnf)
          trivial
        ·have hk1 : k ≠ 1 := by omega
         cases hz : get l d with
         | none =>
          refine Hand.mk [] ?_
          try (conv => whnf)
          refine CallW.n (i_numN hz (by omega) m3) ?_
          rintro _ _ ⟨e, rfl, rfl, he⟩
          try (conv => whnf)
          refine Hand.mk [] ?_
          try (conv => whnf)
          refine CallW.d (i_zag 0 (by omega)) ?_
          try (conv => whnf)
          refine LoopE.mk (fun (_ : Nat) => mk [(0, .one (.ptr 0 0)), (3, vI .i64 a), (4, vI .i64 n), (5, .one (.os (.v 5000) 1 0 (xs ++ [(v : Int)]).length)), (6, vI .i64 v), (7, vI .i64 k), (8, vI .i64 (zag 0)), (9, vI .i64 1)] [(0, rdR l e true), (5000, .own 1 ((xs ++ [(v : Int)]).map inD))]) (fun _ => True) (fun x => x) 0 trivial (LeX.of ?_) ?_
          ·try (conv => whnf)
           repeat (refine Need.mk ?_ ?_; (focus (first | omega | (simp; done))); conv => whnf)
           trivial
          ·intro _ _
           have hz0 : zag 0 = 0 := rfl
           try (conv => whnf)
           repeat' (first
            | (refine Pick.mk ?_ ?_ ?_; rotate_left; (focus ((refine wid ?_ ?_ <;> omega))); conv => whnf)
            | (refine SeqJ.thru ?_; conv => whnf)
            | (refine br_dec (fun _ => ?_) (fun _ => ?_) <;> first | (exfalso; omega) | contradiction | conv => whnf)
            | (refine br_not ?_; conv => whnf)
            | (refine br_bne (fun _ => ?_) (fun _ => ?_) <;> first | (exfalso; omega) | contradiction | conv => whnf)
            | (refine br_beq (fun _ => ?_) (fun _ => ?_) <;> first | (exfalso; omega) | contradiction | conv => whnf))
           refine Out.mk false [0, 1, 2, 3, 4] [(0, 1)] ?_
           try (conv => whnf)
           exact ⟨hbad (L := []) (rsN_none4 hpos hk hm hk1 hz) he⟩
         | some r =>
          obtain ⟨z, e⟩ := r
          obtain ⟨z1, z2, z3, z4, z5⟩ := get_inv hz
          simp only [MaxN] at z4
          have hzl := zag_le z4
          refine Hand.mk [] ?_
          try (conv => whnf)
          refine CallW.n (i_num hz (by omega)) ?_
          rintro _ _ ⟨rfl, rfl⟩
          try (conv => whnf)
          refine Hand.mk [] ?_
          try (conv => whnf)
          refine CallW.d (i_zag z z4) ?_
          try (conv => whnf)
          refine LoopE.mk (fun (x : Nat × Int × List Int) => mk [(0, .one (.ptr 0 0)), (3, vI .i64 a), (4, vI .i64 n), (5, .one (.os (.v 5000) 1 0 (xs ++ x.2.2).length)), (6, vI .i64 x.2.1), (7, vI .i64 k), (8, vI .i64 (zag z)), (9, vI .i64 x.1)] [(0, rdR l e false), (5000, .own 1 ((xs ++ x.2.2).map inD))])
           (fun x => 1 ≤ x.1 ∧ x.1 ≤ k ∧ x.2.2.length = x.1 ∧ (∀ w ∈ x.2.2, inM w) ∧ inM x.2.1 ∧ seq v (zag z) k = x.2.2 ++ seq (x.2.1 + zag z) (zag z) (k - x.1)) (fun x => k - x.1) (1, v, [(v : Int)]) ⟨by omega, by omega, rfl, by simpa using hv, hv, ?_⟩ (LeX.of ?_) ?_
          ·dsimp only
           obtain ⟨m, rfl⟩ : ∃ m, k = m + 1 := ⟨k - 1, by omega⟩
           rfl
          ·try (conv => whnf)
           repeat (refine Need.mk ?_ ?_; (focus (first | omega | (simp; done))); conv => whnf)
           trivial
          ·rintro ⟨j, y, S⟩ ⟨j1, j2, j3, j4, j5, j6⟩
           dsimp only at j1 j2 j3 j4 j5 j6 ⊢
           rcases Nat.lt_or_ge j k with hj | hj
           ·have j5' := j5
            unfold inM M4 at j5'
            have e1 : k - j = (k - (j + 1)) + 1 := by omega
            by_cases hy : inM (y + zag z)
            ·have hy' := hy
             unfold inM M4 at hy'
             try (conv => whnf)
             repeat' (first
              | (refine Need.mk ?_ ?_; (focus (first | omega | rfl)); conv => whnf)
              | (refine Pick.mk ?_ ?_ ?_; rotate_left; (focus (first | (simp only [List.length_map, List.length_append, List.length_cons, List.length_nil, List.length_replicate, Nat.zero_add]; rfl) | exact map_snoc inD _ _ | (simp only [chunks]; rfl) | (refine wid ?_ ?_ <;> omega) | (refine SlOf.full ?_; first | (simp; done) | (simp; omega)))); conv => whnf)
              | (refine SeqJ.thru ?_; conv => whnf)
              | (refine br_dec (fun _ => ?_) (fun _ => ?_) <;> first | (exfalso; omega) | contradiction | conv => whnf)
              | (refine br_not ?_; conv => whnf)
              | (refine br_bne (fun _ => ?_) (fun _ => ?_) <;> first | (exfalso; omega) | contradiction | conv => whnf)
              | (refine br_beq (fun _ => ?_) (fun _ => ?_) <;> first | (exfalso; omega) | contradiction | conv => whnf))
             refine Pick.mk (j + 1, y + zag z, S ++ [y + zag z]) ⟨⟨by omega, by omega, by simp [j3], ?_, hy, ?_⟩, by dsimp only; omega⟩ (LeX.of ?_)
             ·intro w hw
              rcases List.mem_append.1 hw with hw | hw
              ·exact j4 w hw
              ·simp at hw; subst hw; exact hy
             ·dsimp only
              rw [j6, e1, seq_step]
              simp
             ·try (conv => whnf)
              repeat (refine Need.mk ?_ ?_; (focus (first | omega | (simp; done) | (simp; omega))); conv => whnf)
              trivial
            ·have hn : ¬ ∀ w ∈ seq v (zag z) k, inM w := fun h => hy (h _ (by rw [j6, e1, seq_step]; simp))
             unfold inM M4 at hy
             try (conv => whnf)
             repeat' (first
              | (refine Pick.mk ?_ ?_ ?_; rotate_left; (focus ((refine wid ?_ ?_ <;> omega))); conv => whnf)
              | (refine SeqJ.thru ?_; conv => whnf)
              | (refine br_dec (fun _ => ?_) (fun _ => ?_) <;> first | (exfalso; omega) | contradiction | conv => whnf)
              | (refine br_not ?_; conv => whnf)
              | (refine br_bne (fun _ => ?_) (fun _ => ?_) <;> first | (exfalso; omega) | contradiction | conv => whnf)
              | (refine br_beq (fun _ => ?_) (fun _ => ?_) <;> first | (exfalso; omega) | contradiction | conv => whnf))
             all_goals
              refine Out.mk false [0, 1, 2, 3, 4] [(0, 1)] ?_
              try (conv => whnf)
              exact ⟨hbad (L := []) (rsN_none5 hpos hk hm hk1 hz hn) z3⟩
           ·rw [show k - j = 0 by omega] at j6
            simp only [seq, List.append_nil] at j6
            try (conv => whnf)
            repeat' (first
             | (refine SeqJ.thru ?_; conv => whnf)
             | (refine br_dec (fun _ => ?_) (fun _ => ?_) <;> first | (exfalso; omega) | contradiction | conv => whnf)
             | (refine br_not ?_; conv => whnf)
             | (refine br_bne (fun _ => ?_) (fun _ => ?_) <;> first | (exfalso; omega) | contradiction | conv => whnf)
             | (refine br_beq (fun _ => ?_) (fun _ => ?_) <;> first | (exfalso; omega) | contradiction | conv => whnf))
            refine Pick.mk (e, xs ++ S) ⟨⟨by simp; omega, by omega, z3, ?_, ?_⟩, by simp; omega⟩ (LeX.of ?_)
            ·intro w hw
             rcases List.mem_append.1 hw with hw | hw
             ·exact h4 w hw
             ·exact j4 w hw
            ·dsimp only
             rw [h5, rsN_more hpos hk hm hok hk1 hz (by rw [j6]; exact j4), Option.map_map, j6]
             simp only [List.length_append, Nat.sub_sub, j3, show j = k by omega]
             congr 1
             funext r
             simp
            ·try (conv => whnf)
             repeat (refine Need.mk ?_ ?_; (focus (first | omega | (simp; done))); conv => whnf)
             trivial
    ·rw [show n - xs.length = 0 by omega, rsN_0] at h5
     simp only [Option.map_some, List.append_nil] at h5
     try (conv => whnf)
     repeat' (first
      | (refine Need.mk ?_ ?_; (focus ((simp; done))); conv => whnf)
      | (refine Pick.mk ?_ ?_ ?_; rotate_left; (focus (first | with_reducible exact sl_map _ _ _ _ | (refine bnd_id ?_; omega) | exact List.length_map _ | ((fail_if_success (show @Eq (Option _) _ _)); rfl))); conv => whnf)
      | (refine SeqJ.thru ?_; conv => whnf)
      | (refine br_dec (fun _ => ?_) (fun _ => ?_) <;> first | (exfalso; omega) | contradiction | conv => whnf)
      | (refine br_not ?_; conv => whnf)
      | (refine br_bne (fun _ => ?_) (fun _ => ?_) <;> first | (exfalso; omega) | contradiction | conv => whnf)
      | (refine br_beq (fun _ => ?_) (fun _ => ?_) <;> first | (exfalso; omega) | contradiction | conv => whnf))
     refine Hand.mk [] ?_
     try (conv => whnf)
     repeat (refine Pick.mk ?_ ?_ ?_; rotate_left; (focus ((refine SlF.self _ _ ?_ ?_; (first | rfl | omega | (simp; done) | (simp; omega)); (exact fun _ => rfl)))); conv => whnf)
     refine CallW.d (i_appendRuns_nil xs h4 (by omega)) ?_
     try (conv => whnf)
     repeat (first
      | (refine Need.mk ?_ ?_; (focus (((conv => whnf); (repeat (first | (refine Need.mk (by first | rfl | omega | (simp; done)) ?_; conv => whnf) | (refine Pick.mk ?_ ?_ ?_; rotate_left; (focus (first | with_reducible exact xor_u8 _ _ | (with_reducible refine xor_i64 ?_ ?_; all_goals omega) | (with_reducible refine xor_u32 ?_ ?_; all_goals omega) | assumption | with_reducible exact set_byN _ _ _ _ | with_reducible exact set_byI _ _ _ _ | with_reducible exact set_inN _ _ _ _ | with_reducible exact set_inI _ _ _ _ | with_reducible exact set_stN _ _ _ _ | with_reducible exact set_tsN _ _ _ _ | with_reducible exact set_tsI _ _ _ _ | with_reducible exact set_boN _ _ _ _ | with_reducible exact set_boI _ _ _ _ | (with_reducible refine get_mapN _ _ _ ?_; first | omega | (simp; omega)) | (with_reducible refine get_mapI _ _ _ ?_ ?_ <;> first | omega | (simp; omega)) | exact bs_beq _ _ | exact bs_less _ _ | exact bs_leq _ _ | with_reducible exact bs_app _ _ | (refine bs_get _ _ ?_; omega) | (refine bs_int _ _ ?_ ?_ <;> omega) | with_reducible exact sl_map0 _ _ _ | with_reducible exact sl_mapN _ _ _ | with_reducible exact sl_map _ _ _ _ | exact bs_extract0 _ _ | exact bs_extractN _ _ | exact bs_extract _ _ _ | (refine bnd_id ?_; omega) | (refine bnd_sub ?_ ?_ <;> omega) | (refine bnd_add ?_; omega) | (refine bnd_subN ?_ ?_ <;> omega) | (refine bnd_int ?_ ?_ <;> omega) | ((show @Eq Nat (_ + Int.toNat _ * _) _); simp only [Int.toNat_natCast, Nat.zero_add, Nat.mul_one]; rfl) | ((show @Eq (List _) (List.set [_] _ _) _); simp only [List.set_cons_zero]; rfl) | exact List.length_map _ | exact size_bs _ | (simp only [List.length_map, List.length_append, List.length_cons, List.length_nil, List.length_replicate, Nat.zero_add]; rfl) | with_reducible exact List.nil_append _ | with_reducible exact map_app _ _ _ | exact map_snoc byD _ _ | exact map_snoc inD _ _ | exact map_snoc stD _ _ | exact map_snoc tsD _ _ | (simp only [chunks]; rfl) | (refine wid ?_ ?_ <;> omega) | exact wby _ | with_reducible exact wby32 _ | with_reducible exact wu32 _ | exact wby64 _ | exact shr8 _ | exact shr16 _ | exact shr24 _ | exact shr32 _ | (refine tmodn ?_; omega) | (refine wdiv ?_ ?_ ?_ <;> omega) | exact wbyte _ | exact natlit _ | exact rep_by _ | exact rep_in _ | exact rep_bo _ | exact rep_st _ | (refine pick_nat _ _ _ ?_; omega) | (refine pick_int _ _ _ ?_ ?_ <;> omega) | (refine SlOf.full ?_; first | (simp; done) | (simp; omega)) | (with_reducible refine SlOf.pre _ _ ?_; first | omega | (simp; omega)) | (refine SlF.self _ _ ?_ ?_; (first | rfl | omega | (simp; done) | (simp; omega)); (exact fun _ => rfl)) | (refine SlF.pre _ _ ?_ ?_; (first | omega | (simp; omega)); (exact fun _ => rfl)) | (refine SlF.same ?_ ?_; (first | rfl | omega | (simp; done) | (simp; omega)); (first | exact fz_self _ _ (fun _ => rfl) | exact fz_pl rfl | (refine Fz.append ?_ ?_ <;> first | exact fz_self _ _ (fun _ => rfl) | exact fz_pl rfl) | (refine Fz.append (Fz.append ?_ ?_) ?_ <;> first | exact fz_self _ _ (fun _ => rfl) | exact fz_pl rfl))) | (simp only [Int.toNat_natCast, Nat.zero_add, Nat.mul_one]; rfl) | ((show @Eq (Option CV) _ _); rfl) | ((fail_if_success (show @Eq (Option _) _ _)); rfl) | ((show @Eq (Option _) _ _); simp only [List.getElem?_cons_zero, List.getElem?_cons_succ]; done) | ((show @Eq (Option _) _ _); simp only [List.getElem?_cons_zero, List.getElem?_cons_succ]; rfl) | with_reducible rfl)); conv => whnf))); exact Done.mk trivial))); conv => whnf)
      | (refine Pick.mk ?_ ?_ ?_; rotate_left; (focus (first | exact bs_beq _ _ | (refine SlOf.full ?_; first | (simp; done) | (simp; omega)))); conv => whnf))
     try (conv => whnf)
     repeat' (first
      | (refine br_dec (fun _ => ?_) (fun _ => ?_) <;> first | (exfalso; omega) | contradiction | conv => whnf)
      | (refine br_not ?_; conv => whnf)
      | (refine br_bne (fun _ => ?_) (fun _ => ?_) <;> first | (exfalso; omega) | contradiction | conv => whnf)
      | (refine br_beq (fun _ => ?_) (fun _ => ?_) <;> first | (exfalso; omega) | contradiction | conv => whnf))
     ·rename_i q
      refine Out.mk false [0, 1, 2, 3, 4] [] ?_
      try (conv => whnf)
      exact ⟨b, false, xs, rfl, rfl, h3, by
       rw [getR, h5]
       dsimp only
       rw [if_pos (by rw [q, List.drop_take])]
       exact ⟨rfl, rfl, rfl⟩⟩
     ·rename_i q
      refine Out.mk false [0, 1, 2, 3, 4] [(0, 1)] ?_
      try (conv => whnf)
      exact ⟨b, true, [], rfl, rfl, h3, by
       rw [getR, h5]
       dsimp only
       rw [if_neg (by rw [← List.drop_take]; exact q)]⟩
end Go.Proofs.Ytpdjehnlejjfmaa.D
/- Lists of numbers read, by the reference: whether they are the shortest is not asked. -/
namespace Go.Proofs.Ytpdjehnlejjfmaa.D
open Go.RowKit
set_option maxRecDepth 100000
set_option maxHeartbeats 4000000
set_option linter.unusedVariables false
set_option linter.unusedSimpArgs false
def RunS (l : List UInt8) (a : Nat) : SV → List Row → Prop := fun r Lo =>
 ∃ (b : Nat) (bad : Bool) (xs : List Int), Lo = [rdR l b bad, .own 1 (xs.map inD)] ∧ r = .one (.os (.v 1) 1 0 xs.length) ∧ b ≤ l.length ∧ xs.length ≤ 4096 ∧ match getR0 l a with | some (ys, c) => bad = false ∧ xs = ys ∧ b = c | none => bad = true
theorem s_countB {l : List UInt8} {a : Nat} (hl : l.length ≤ 2 ^ 40) (ha : a ≤ l.length) :
  CallM Try.prog id_spec_l01Reader_count [.one (.ptr 0 0)] [rdR l a true] [] false fun r Lo => ∃ b : Nat, Lo = [rdR l b true] ∧ r = vI .i64 0 ∧ b ≤ l.length := by
 refine F_spec_l01Reader_count ?_
 try (conv => whnf)
 refine Hand.mk [] ?_
 try (conv => whnf)
 refine CallW.n (s_numB hl ha) ?_
 rintro _ _ ⟨b, rfl, rfl, hb⟩
 try (conv => whnf)
 repeat' (first
  | (refine SeqJ.thru ?_; conv => whnf)
  | (refine br_dec (fun _ => ?_) (fun _ => ?_) <;> first | (exfalso; omega) | contradiction | conv => whnf)
  | (refine br_not ?_; conv => whnf)
  | (refine br_bne (fun _ => ?_) (fun _ => ?_) <;> first | (exfalso; omega) | contradiction | conv => whnf)
  | (refine br_beq (fun _ => ?_) (fun _ => ?_) <;> first | (exfalso; omega) | contradiction | conv => whnf))
 refine Out.mk false [0, 1, 2, 3, 4] [] ?_
 try (conv => whnf)
 exact ⟨_, rfl, rfl, hb⟩
theorem zag_tdiv {z : Nat} (h : z % 2 = 1) (hz : z ≤ 4611686018427387903) : IntKind.i64.wrap ((0 - ((z : Int) + 1)).tdiv 2) = zag z := by
 have e : (0 - ((z : Int) + 1)).tdiv 2 = zag z := by rw [Int.zero_sub, zag, if_pos h, Int.neg_tdiv, Int.tdiv_eq_ediv_of_nonneg (by omega)]; omega
 have := zag_le hz
 rw [e]; exact wid (by omega) (by omega)
theorem zag_tdiv0 {z : Nat} (h : ¬ z % 2 = 1) (hz : z ≤ 4611686018427387903) : IntKind.i64.wrap (((z : Int)).tdiv 2) = zag z := by
 have e : ((z : Int)).tdiv 2 = zag z := by rw [zag, if_neg h, Int.tdiv_eq_ediv_of_nonneg (by omega)]; omega
 have := zag_le hz
 rw [e]; exact wid (by omega) (by omega)
theorem tmod2 (z : Nat) : ((z : Int)).tmod 2 = ((z % 2 : Nat) : Int) := by
 rw [Int.tmod_eq_emod_of_nonneg (by omega)]; omega
theorem seq_zero (v : Int) : ∀ k : Nat, seq v 0 k = List.replicate k v
 | 0 => rfl
 | k + 1 => by rw [seq_step, Int.add_zero, seq_zero v k]; rfl
theorem seq_app (y d : Int) (S : List Int) (j : Nat) {v : Int} {k : Nat} (h : seq v d k = S ++ seq y d (j + 1)) : seq v d k = (S ++ [y]) ++ seq (y + d) d j := by rw [h, seq_step]; simp
structure Hid (p : Prop) : Prop where out : p
theorem s_runs (l : List UInt8) (a : Nat) (hl : l.length ≤ 2 ^ 30) (ha : a ≤ l.length) :
  CallM Try.prog id_spec_l01Reader_runs [.one (.ptr 0 0)] [rdR l a false] [] false (RunS l a) := by
 refine F_spec_l01Reader_runs ?_
 try (conv => whnf)
 repeat (refine Pick.mk ?_ ?_ ?_; rotate_left; (focus ((simp only [chunks]; rfl))); conv => whnf)
 by_cases hg : ∃ n b, get l a = some (n, b) ∧ n ≤ 4096
 ·obtain ⟨n, b, hg, hn⟩ := hg
  obtain ⟨g1, g2, g3, g4, g5⟩ := get_inv hg
  have hT : getR0 l a = rsN l n b := by simp only [getR0, hg]; rw [if_pos (by omega)]
  refine Hand.mk [] ?_
  try (conv => whnf)
  refine CallW.n (s_count hg hn (by omega)) ?_
  rintro _ _ ⟨rfl, rfl⟩
  try (conv => whnf)
  repeat (refine SeqJ.thru ?_; conv => whnf)
  refine LoopE.mk (fun (x : Nat × List Int × Bool) => mk [(0, .one (.ptr 0 0)), (3, .one (.os (.v 8192) 1 0 x.2.1.length)), (4, vI .i64 n)] [(0, rdR l x.1 x.2.2), (8192, .own 1 (x.2.1.map inD))])
   (fun x => x.2.1.length ≤ n ∧ x.1 ≤ l.length ∧ (∀ y ∈ x.2.1, inM y) ∧ if x.2.2 then getR0 l a = none else getR0 l a = (rsN l (n - x.2.1.length) x.1).map fun r => (x.2.1 ++ r.1, r.2)) (fun x => n - x.2.1.length) (b, [], false) ⟨by simp, g3, by simp, by simp [hT]⟩ (LeX.of ?_) ?_
  ·try (conv => whnf)
   repeat (refine Need.mk ?_ ?_; (focus (first | omega | (simp; done))); conv => whnf)
   trivial
  ·rintro ⟨b, xs, bad⟩ ⟨h1, h2, h3, h4⟩
   dsimp only at h1 h2 h3 h4 ⊢
   cases bad with
   | true =>
    rw [if_pos rfl] at h4
    try (conv => whnf)
    repeat' (first
     | (refine SeqJ.thru ?_; conv => whnf)
     | (refine br_dec (fun _ => ?_) (fun _ => ?_) <;> first | (exfalso; omega) | contradiction | conv => whnf)
     | (refine br_not ?_; conv => whnf)
     | (refine br_bne (fun _ => ?_) (fun _ => ?_) <;> first | (exfalso; omega) | contradiction | conv => whnf)
     | (refine br_beq (fun _ => ?_) (fun _ => ?_) <;> first | (exfalso; omega) | contradiction | conv => whnf))
    all_goals
     refine Out.mk false [0, 1, 2, 3, 4] [] ?_
     try (conv => whnf)
     exact ⟨b, true, xs, rfl, rfl, h2, by omega, by rw [h4]⟩
   | false =>
    rw [if_neg (by simp)] at h4
    rcases Nat.lt_or_ge xs.length n with hlt | hge
    ·have hpos : 0 < n - xs.length := by omega
     have hbad : ∀ {c : Nat} {o : List Int}, rsN l (n - xs.length) b = none → c ≤ l.length → o.length ≤ 4096 → RunS l a (.one (.os (.v 1) 1 0 o.length)) [rdR l c true, .own 1 (o.map inD)] := fun h hc ho => ⟨_, true, _, rfl, rfl, hc, ho, by rw [h4, h]; rfl⟩
     try (conv => whnf)
     repeat' (first
      | (refine SeqJ.thru ?_; conv => whnf)
      | (refine br_dec (fun _ => ?_) (fun _ => ?_) <;> first | (exfalso; omega) | contradiction | conv => whnf)
      | (refine br_not ?_; conv => whnf)
      | (refine br_bne (fun _ => ?_) (fun _ => ?_) <;> first | (exfalso; omega) | contradiction | conv => whnf)
      | (refine br_beq (fun _ => ?_) (fun _ => ?_) <;> first | (exfalso; omega) | contradiction | conv => whnf))
     cases hk : get l b with
     | none =>
      refine Hand.mk [] ?_
      try (conv => whnf)
      refine CallW.n (s_numN hk (by omega) h2) ?_
      rintro _ _ ⟨c, rfl, rfl, hc⟩
      try (conv => whnf)
      refine Hand.mk [] ?_
      try (conv => whnf)
      refine CallW.n (s_numB (by omega) hc) ?_
      rintro _ _ ⟨c, rfl, rfl, hc⟩
      try (conv => whnf)
      repeat' (first
       | (refine SeqJ.thru ?_; conv => whnf)
       | (refine br_dec (fun _ => ?_) (fun _ => ?_) <;> first | (exfalso; omega) | contradiction | conv => whnf)
       | (refine br_not ?_; conv => whnf)
       | (refine br_bne (fun _ => ?_) (fun _ => ?_) <;> first | (exfalso; omega) | contradiction | conv => whnf)
       | (refine br_beq (fun _ => ?_) (fun _ => ?_) <;> first | (exfalso; omega) | contradiction | conv => whnf))
      refine Out.mk false [0, 1, 2, 3, 4] [] ?_
      try (conv => whnf)
      exact ⟨hbad (rsN_none1 hpos hk) hc (by omega)⟩
     | some r =>
      obtain ⟨v, c⟩ := r
      obtain ⟨k1, k2, k3, k4, k5⟩ := get_inv hk
      simp only [MaxN] at k4
      refine Hand.mk [] ?_
      try (conv => whnf)
      refine CallW.n (s_num hk (by omega)) ?_
      rintro _ _ ⟨rfl, rfl⟩
      try (conv => whnf)
      cases hm : get l c with
      | none =>
       refine Hand.mk [] ?_
       try (conv => whnf)
       refine CallW.n (s_numN hm (by omega) k3) ?_
       rintro _ _ ⟨d, rfl, rfl, hc⟩
       try (conv => whnf)
       repeat' (first
        | (refine SeqJ.thru ?_; conv => whnf)
        | (refine br_dec (fun _ => ?_) (fun _ => ?_) <;> first | (exfalso; omega) | contradiction | conv => whnf)
        | (refine br_not ?_; conv => whnf)
        | (refine br_bne (fun _ => ?_) (fun _ => ?_) <;> first | (exfalso; omega) | contradiction | conv => whnf)
        | (refine br_beq (fun _ => ?_) (fun _ => ?_) <;> first | (exfalso; omega) | contradiction | conv => whnf))
       refine Out.mk false [0, 1, 2, 3, 4] [] ?_
       try (conv => whnf)
       exact ⟨hbad (rsN_none2 hpos hk hm) hc (by omega)⟩
      | some r =>
       obtain ⟨k, d⟩ := r
       obtain ⟨m1, m2, m3, m4, m5⟩ := get_inv hm
       simp only [MaxN] at m4
       refine Hand.mk [] ?_
       try (conv => whnf)
       refine CallW.n (s_num hm (by omega)) ?_
       rintro _ _ ⟨rfl, rfl⟩
       by_cases hok : (v : Int) ≤ M4 ∧ 1 ≤ k ∧ k ≤ n - xs.length
       rotate_left
       ·unfold M4 at hok
        try (conv => whnf)
        repeat' (first
         | (refine Pick.mk ?_ ?_ ?_; rotate_left; (focus ((refine wid ?_ ?_ <;> omega))); conv => whnf)
         | (refine SeqJ.thru ?_; conv => whnf)
         | (refine br_dec (fun _ => ?_) (fun _ => ?_) <;> first | (exfalso; omega) | contradiction | conv => whnf)
         | (refine br_not ?_; conv => whnf)
         | (refine br_bne (fun _ => ?_) (fun _ => ?_) <;> first | (exfalso; omega) | contradiction | conv => whnf)
         | (refine br_beq (fun _ => ?_) (fun _ => ?_) <;> first | (exfalso; omega) | contradiction | conv => whnf))
        all_goals
         refine Out.mk false [0, 1, 2, 3, 4] [] ?_
         try (conv => whnf)
         exact ⟨hbad (rsN_none3 hpos hk hm (by unfold M4; omega)) m3 (by omega)⟩
       ·have hok' := hok
        unfold M4 at hok'
        have hv : inM v := ⟨by omega, hok.1⟩
        by_cases hk1 : k = 1
        ·try (conv => whnf)
         repeat' (first
          | (refine Pick.mk ?_ ?_ ?_; rotate_left; (focus ((refine wid ?_ ?_ <;> omega))); conv => whnf)
          | (refine SeqJ.thru ?_; conv => whnf)
          | (refine br_dec (fun _ => ?_) (fun _ => ?_) <;> first | (exfalso; omega) | contradiction | conv => whnf)
          | (refine br_not ?_; conv => whnf)
          | (refine br_bne (fun _ => ?_) (fun _ => ?_) <;> first | (exfalso; omega) | contradiction | conv => whnf)
          | (refine br_beq (fun _ => ?_) (fun _ => ?_) <;> first | (exfalso; omega) | contradiction | conv => whnf))
         refine LoopE.mk (fun (x : Nat × Int × List Int) => mk [(0, .one (.ptr 0 0)), (3, .one (.os (.v 8192) 1 0 (xs ++ x.2.2).length)), (4, vI .i64 n), (5, vI .i64 x.2.1), (6, vI .i64 x.1), (7, vI .i64 (0 : Int))] [(0, rdR l d false), (8192, .own 1 ((xs ++ x.2.2).map inD))])
          (fun x => x.1 + x.2.2.length = k ∧ (∀ w ∈ x.2.2, inM w) ∧ (0 < x.1 → inM x.2.1) ∧ (-(2 ^ 62) ≤ x.2.1 ∧ x.2.1 ≤ 2 ^ 62) ∧ seq v (0 : Int) k = x.2.2 ++ seq x.2.1 (0 : Int) x.1) (fun x => x.1) (k, v, []) ⟨by simp, by simp, fun _ => hv, by dsimp only; omega, by simp⟩ (LeX.of ?_) ?_
         ·try (conv => whnf)
          repeat (refine Need.mk ?_ ?_; (focus (first | omega | (simp; done))); conv => whnf)
          trivial
         ·rintro ⟨j, y, S⟩ ⟨j1, j2, j3, j4, j5⟩
          dsimp only at j1 j2 j3 j4 j5 ⊢
          rcases Nat.eq_zero_or_pos j with hj | hj
          ·subst hj
           simp only [seq, List.append_nil] at j5
           try (conv => whnf)
           repeat' (first
            | (refine SeqJ.thru ?_; conv => whnf)
            | (refine br_dec (fun _ => ?_) (fun _ => ?_) <;> first | (exfalso; omega) | contradiction | conv => whnf)
            | (refine br_not ?_; conv => whnf)
            | (refine br_bne (fun _ => ?_) (fun _ => ?_) <;> first | (exfalso; omega) | contradiction | conv => whnf)
            | (refine br_beq (fun _ => ?_) (fun _ => ?_) <;> first | (exfalso; omega) | contradiction | conv => whnf))
           have hS1 : S = [(v : Int)] := by rw [← j5, hk1]; rfl
           have hm1 : get l c = some (1, d) := by rw [hm, hk1]
           subst hS1
           refine Pick.mk (d, xs ++ [(v : Int)], false) ⟨⟨by simp; omega, m3, ?_, ?_⟩, by simp; omega⟩ (LeX.of ?_)
           ·exact fun y hy => (List.mem_append.1 hy).elim (h3 y) (j2 y)
           ·dsimp only
            rw [if_neg (by simp), h4, rsN_one hpos hk hm1 hok.1, Option.map_map]
            simp only [List.length_append, List.length_singleton, Nat.sub_sub]
            congr 1
            funext r
            simp
           ·try (conv => whnf)
            repeat (refine Need.mk ?_ ?_; (focus (first | omega | (simp; done))); conv => whnf)
            trivial
          ·obtain ⟨j, rfl⟩ : ∃ i, j = i + 1 := ⟨j - 1, by omega⟩
           have hy := j3 hj
           have hy' := hy
           unfold inM M4 at hy'
           have j6 := seq_app y _ S j j5
           have hS : ∀ w ∈ S ++ [y], inM w := fun w hw => (List.mem_append.1 hw).elim (j2 w) fun hw => by simp at hw; subst hw; exact hy
           by_cases hnx : 0 < j → inM (y + (0 : Int))
           ·have hnx' := hnx
            unfold inM M4 at hnx'
            try (conv => whnf)
            repeat' (first
             | (refine Need.mk ?_ ?_; (focus (first | omega | rfl)); conv => whnf)
             | (refine Pick.mk ?_ ?_ ?_; rotate_left; (focus (first | (simp only [List.length_map, List.length_append, List.length_cons, List.length_nil, List.length_replicate, Nat.zero_add]; rfl) | exact map_snoc inD _ _ | (simp only [chunks]; rfl) | (refine wid ?_ ?_ <;> omega) | (refine SlOf.full ?_; first | (simp; done) | (simp; omega)))); conv => whnf)
             | (refine SeqJ.thru ?_; conv => whnf)
             | (refine br_dec (fun _ => ?_) (fun _ => ?_) <;> first | (exfalso; omega) | contradiction | conv => whnf)
             | (refine br_not ?_; conv => whnf)
             | (refine br_bne (fun _ => ?_) (fun _ => ?_) <;> first | (exfalso; omega) | contradiction | conv => whnf)
             | (refine br_beq (fun _ => ?_) (fun _ => ?_) <;> first | (exfalso; omega) | contradiction | conv => whnf))
            all_goals
             refine Pick.mk (j, y + (0 : Int), S ++ [y]) ⟨⟨by simp; omega, hS, hnx, by dsimp only; omega, j6⟩, by dsimp only; omega⟩ (LeX.of ?_)
             try (conv => whnf)
             repeat (refine Need.mk ?_ ?_; (focus (first | omega | (simp; done) | (simp; omega))); conv => whnf)
             trivial
           ·have hj0 : 0 < j := Classical.byContradiction fun g => hnx fun h => absurd h g
            have hnn : ¬ inM (y + (0 : Int)) := fun g => hnx fun _ => g
            have hn5 : ¬ ∀ w ∈ seq v (0 : Int) k, inM w := fun h => hnn (h _ (by rw [j6]; obtain ⟨i, rfl⟩ : ∃ i, j = i + 1 := ⟨j - 1, by omega⟩; rw [seq_step]; simp))
            unfold inM M4 at hnn
            exfalso; omega
        ·try (conv => whnf)
         repeat' (first
          | (refine Pick.mk ?_ ?_ ?_; rotate_left; (focus ((refine wid ?_ ?_ <;> omega))); conv => whnf)
          | (refine SeqJ.thru ?_; conv => whnf)
          | (refine br_dec (fun _ => ?_) (fun _ => ?_) <;> first | (exfalso; omega) | contradiction | conv => whnf)
          | (refine br_not ?_; conv => whnf)
          | (refine br_bne (fun _ => ?_) (fun _ => ?_) <;> first | (exfalso; omega) | contradiction | conv => whnf)
          | (refine br_beq (fun _ => ?_) (fun _ => ?_) <;> first | (exfalso; omega) | contradiction | conv => whnf))
         cases hz : get l d with
         | none =>
          refine Hand.mk [] ?_
          try (conv => whnf)
          refine CallW.n (s_numN hz (by omega) m3) ?_
          rintro _ _ ⟨e, rfl, rfl, he⟩
          try (conv => whnf)
          repeat' (first
           | (refine Need.mk ?_ ?_; (focus (omega)); conv => whnf)
           | (refine Pick.mk ?_ ?_ ?_; rotate_left; (focus (first | (refine tmodn ?_; omega) | (refine wdiv ?_ ?_ ?_ <;> omega))); conv => whnf)
           | (refine br_dec (fun _ => ?_) (fun _ => ?_) <;> first | (exfalso; omega) | contradiction | conv => whnf)
           | (refine br_not ?_; conv => whnf)
           | (refine br_bne (fun _ => ?_) (fun _ => ?_) <;> first | (exfalso; omega) | contradiction | conv => whnf)
           | (refine br_beq (fun _ => ?_) (fun _ => ?_) <;> first | (exfalso; omega) | contradiction | conv => whnf))
          refine LoopE.mk (fun (x : Nat × Int × List Int) => mk [(0, .one (.ptr 0 0)), (3, .one (.os (.v 8192) 1 0 (xs ++ x.2.2).length)), (4, vI .i64 n), (5, vI .i64 x.2.1), (6, vI .i64 x.1), (7, vI .i64 (0 : Int))] [(0, rdR l e true), (8192, .own 1 ((xs ++ x.2.2).map inD))])
           (fun x => x.1 + x.2.2.length = k ∧ (∀ w ∈ x.2.2, inM w) ∧ (0 < x.1 → inM x.2.1) ∧ (-(2 ^ 62) ≤ x.2.1 ∧ x.2.1 ≤ 2 ^ 62) ∧ seq v (0 : Int) k = x.2.2 ++ seq x.2.1 (0 : Int) x.1) (fun x => x.1) (k, v, []) ⟨by simp, by simp, fun _ => hv, by dsimp only; omega, by simp⟩ (LeX.of ?_) ?_
          ·try (conv => whnf)
           repeat (refine Need.mk ?_ ?_; (focus (first | omega | (simp; done))); conv => whnf)
           trivial
          ·rintro ⟨j, y, S⟩ ⟨j1, j2, j3, j4, j5⟩
           dsimp only at j1 j2 j3 j4 j5 ⊢
           rcases Nat.eq_zero_or_pos j with hj | hj
           ·subst hj
            simp only [seq, List.append_nil] at j5
            try (conv => whnf)
            repeat' (first
             | (refine SeqJ.thru ?_; conv => whnf)
             | (refine br_dec (fun _ => ?_) (fun _ => ?_) <;> first | (exfalso; omega) | contradiction | conv => whnf)
             | (refine br_not ?_; conv => whnf)
             | (refine br_bne (fun _ => ?_) (fun _ => ?_) <;> first | (exfalso; omega) | contradiction | conv => whnf)
             | (refine br_beq (fun _ => ?_) (fun _ => ?_) <;> first | (exfalso; omega) | contradiction | conv => whnf))
            refine Pick.mk (e, xs ++ S, true) ⟨⟨by simp; omega, he, ?_, ?_⟩, by simp; omega⟩ (LeX.of ?_)
            ·exact fun y hy => (List.mem_append.1 hy).elim (h3 y) (j2 y)
            ·dsimp only
             rw [if_pos rfl, h4, rsN_none4 hpos hk hm hk1 hz]; rfl
            ·try (conv => whnf)
             repeat (refine Need.mk ?_ ?_; (focus (first | omega | (simp; done))); conv => whnf)
             trivial
           ·obtain ⟨j, rfl⟩ : ∃ i, j = i + 1 := ⟨j - 1, by omega⟩
            have hy := j3 hj
            have hy' := hy
            unfold inM M4 at hy'
            have j6 := seq_app y _ S j j5
            have hS : ∀ w ∈ S ++ [y], inM w := fun w hw => (List.mem_append.1 hw).elim (j2 w) fun hw => by simp at hw; subst hw; exact hy
            by_cases hnx : 0 < j → inM (y + (0 : Int))
            ·have hnx' := hnx
             unfold inM M4 at hnx'
             try (conv => whnf)
             repeat' (first
              | (refine Need.mk ?_ ?_; (focus (first | omega | rfl)); conv => whnf)
              | (refine Pick.mk ?_ ?_ ?_; rotate_left; (focus (first | (simp only [List.length_map, List.length_append, List.length_cons, List.length_nil, List.length_replicate, Nat.zero_add]; rfl) | exact map_snoc inD _ _ | (simp only [chunks]; rfl) | (refine wid ?_ ?_ <;> omega) | (refine SlOf.full ?_; first | (simp; done) | (simp; omega)))); conv => whnf)
              | (refine SeqJ.thru ?_; conv => whnf)
              | (refine br_dec (fun _ => ?_) (fun _ => ?_) <;> first | (exfalso; omega) | contradiction | conv => whnf)
              | (refine br_not ?_; conv => whnf)
              | (refine br_bne (fun _ => ?_) (fun _ => ?_) <;> first | (exfalso; omega) | contradiction | conv => whnf)
              | (refine br_beq (fun _ => ?_) (fun _ => ?_) <;> first | (exfalso; omega) | contradiction | conv => whnf))
             all_goals
              refine Pick.mk (j, y + (0 : Int), S ++ [y]) ⟨⟨by simp; omega, hS, hnx, by dsimp only; omega, j6⟩, by dsimp only; omega⟩ (LeX.of ?_)
              try (conv => whnf)
              repeat (refine Need.mk ?_ ?_; (focus (first | omega | (simp; done) | (simp; omega))); conv => whnf)
              trivial
            ·have hj0 : 0 < j := Classical.byContradiction fun g => hnx fun h => absurd h g
             have hnn : ¬ inM (y + (0 : Int)) := fun g => hnx fun _ => g
             have hn5 : ¬ ∀ w ∈ seq v (0 : Int) k, inM w := fun h => hnn (h _ (by rw [j6]; obtain ⟨i, rfl⟩ : ∃ i, j = i + 1 := ⟨j - 1, by omega⟩; rw [seq_step]; simp))
             unfold inM M4 at hnn
             exfalso
             exact hn5 fun w hw => by rw [seq_zero] at hw; obtain rfl := List.eq_of_mem_replicate hw; exact hv
         | some r =>
          obtain ⟨z, e⟩ := r
          obtain ⟨z1, z2, z3, z4, z5⟩ := get_inv hz
          simp only [MaxN] at z4
          have hzl := zag_le z4
          have ht := tmod2 z
          refine Hand.mk [] ?_
          try (conv => whnf)
          refine CallW.n (s_num hz (by omega)) ?_
          rintro _ _ ⟨rfl, rfl⟩
          by_cases hz2 : z % 2 = 1
          ·have hzt := Hid.mk (zag_tdiv hz2 z4)
           try (conv => whnf)
           repeat (first | (refine Need.mk ?_ ?_; (focus (first | omega | (simp; done))); conv => whnf) | (refine br_dec (fun _ => ?_) (fun _ => ?_) <;> first | (exfalso; omega) | conv => whnf) | (refine Pick.mk ?_ ?_ ?_; rotate_left; (focus (first | with_reducible exact hzt.out | (refine wid ?_ ?_ <;> omega) | (refine tmodn ?_; omega) | (refine wdiv ?_ ?_ ?_ <;> omega) | exact natlit _ | with_reducible rfl)); conv => whnf))
           refine LoopE.mk (fun (x : Nat × Int × List Int) => mk [(0, .one (.ptr 0 0)), (3, .one (.os (.v 8192) 1 0 (xs ++ x.2.2).length)), (4, vI .i64 n), (5, vI .i64 x.2.1), (6, vI .i64 x.1), (7, vI .i64 (zag z))] [(0, rdR l e false), (8192, .own 1 ((xs ++ x.2.2).map inD))])
            (fun x => x.1 + x.2.2.length = k ∧ (∀ w ∈ x.2.2, inM w) ∧ (0 < x.1 → inM x.2.1) ∧ (-(2 ^ 62) ≤ x.2.1 ∧ x.2.1 ≤ 2 ^ 62) ∧ seq v (zag z) k = x.2.2 ++ seq x.2.1 (zag z) x.1) (fun x => x.1) (k, v, []) ⟨by simp, by simp, fun _ => hv, by dsimp only; omega, by simp⟩ (LeX.of ?_) ?_
           ·try (conv => whnf)
            repeat (refine Need.mk ?_ ?_; (focus (first | omega | (simp; done))); conv => whnf)
            trivial
           ·rintro ⟨j, y, S⟩ ⟨j1, j2, j3, j4, j5⟩
            dsimp only at j1 j2 j3 j4 j5 ⊢
            rcases Nat.eq_zero_or_pos j with hj | hj
            ·subst hj
             simp only [seq, List.append_nil] at j5
             try (conv => whnf)
             repeat' (first
              | (refine SeqJ.thru ?_; conv => whnf)
              | (refine br_dec (fun _ => ?_) (fun _ => ?_) <;> first | (exfalso; omega) | contradiction | conv => whnf)
              | (refine br_not ?_; conv => whnf)
              | (refine br_bne (fun _ => ?_) (fun _ => ?_) <;> first | (exfalso; omega) | contradiction | conv => whnf)
              | (refine br_beq (fun _ => ?_) (fun _ => ?_) <;> first | (exfalso; omega) | contradiction | conv => whnf))
             refine Pick.mk (e, xs ++ S, false) ⟨⟨by simp; omega, z3, ?_, ?_⟩, by simp; omega⟩ (LeX.of ?_)
             ·exact fun y hy => (List.mem_append.1 hy).elim (h3 y) (j2 y)
             ·dsimp only
              rw [if_neg (by simp), h4, rsN_more hpos hk hm hok hk1 hz (fun w hw => j2 w (by rw [← j5]; exact hw)), Option.map_map, j5]
              simp only [List.length_append, Nat.sub_sub]
              rw [show S.length = k by omega]
              congr 1
              funext r
              simp
             ·try (conv => whnf)
              repeat (refine Need.mk ?_ ?_; (focus (first | omega | (simp; done))); conv => whnf)
              trivial
            ·obtain ⟨j, rfl⟩ : ∃ i, j = i + 1 := ⟨j - 1, by omega⟩
             have hy := j3 hj
             have hy' := hy
             unfold inM M4 at hy'
             have j6 := seq_app y _ S j j5
             have hS : ∀ w ∈ S ++ [y], inM w := fun w hw => (List.mem_append.1 hw).elim (j2 w) fun hw => by simp at hw; subst hw; exact hy
             by_cases hnx : 0 < j → inM (y + (zag z))
             ·have hnx' := hnx
              unfold inM M4 at hnx'
              try (conv => whnf)
              repeat' (first
               | (refine Need.mk ?_ ?_; (focus (first | omega | rfl)); conv => whnf)
               | (refine Pick.mk ?_ ?_ ?_; rotate_left; (focus (first | (simp only [List.length_map, List.length_append, List.length_cons, List.length_nil, List.length_replicate, Nat.zero_add]; rfl) | exact map_snoc inD _ _ | (simp only [chunks]; rfl) | (refine wid ?_ ?_ <;> omega) | (refine SlOf.full ?_; first | (simp; done) | (simp; omega)))); conv => whnf)
               | (refine SeqJ.thru ?_; conv => whnf)
               | (refine br_dec (fun _ => ?_) (fun _ => ?_) <;> first | (exfalso; omega) | contradiction | conv => whnf)
               | (refine br_not ?_; conv => whnf)
               | (refine br_bne (fun _ => ?_) (fun _ => ?_) <;> first | (exfalso; omega) | contradiction | conv => whnf)
               | (refine br_beq (fun _ => ?_) (fun _ => ?_) <;> first | (exfalso; omega) | contradiction | conv => whnf))
              all_goals
               refine Pick.mk (j, y + (zag z), S ++ [y]) ⟨⟨by simp; omega, hS, hnx, by dsimp only; omega, j6⟩, by dsimp only; omega⟩ (LeX.of ?_)
               try (conv => whnf)
               repeat (refine Need.mk ?_ ?_; (focus (first | omega | (simp; done) | (simp; omega))); conv => whnf)
               trivial
             ·have hj0 : 0 < j := Classical.byContradiction fun g => hnx fun h => absurd h g
              have hnn : ¬ inM (y + (zag z)) := fun g => hnx fun _ => g
              have hn5 : ¬ ∀ w ∈ seq v (zag z) k, inM w := fun h => hnn (h _ (by rw [j6]; obtain ⟨i, rfl⟩ : ∃ i, j = i + 1 := ⟨j - 1, by omega⟩; rw [seq_step]; simp))
              unfold inM M4 at hnn
              try (conv => whnf)
              repeat' (first
               | (refine Need.mk ?_ ?_; (focus (first | omega | rfl)); conv => whnf)
               | (refine Pick.mk ?_ ?_ ?_; rotate_left; (focus (first | (simp only [List.length_map, List.length_append, List.length_cons, List.length_nil, List.length_replicate, Nat.zero_add]; rfl) | exact map_snoc inD _ _ | (simp only [chunks]; rfl) | (refine wid ?_ ?_ <;> omega) | (refine SlOf.full ?_; first | (simp; done) | (simp; omega)))); conv => whnf)
               | (refine SeqJ.thru ?_; conv => whnf)
               | (refine br_dec (fun _ => ?_) (fun _ => ?_) <;> first | (exfalso; omega) | contradiction | conv => whnf)
               | (refine br_not ?_; conv => whnf)
               | (refine br_bne (fun _ => ?_) (fun _ => ?_) <;> first | (exfalso; omega) | contradiction | conv => whnf)
               | (refine br_beq (fun _ => ?_) (fun _ => ?_) <;> first | (exfalso; omega) | contradiction | conv => whnf))
              all_goals
               refine Out.mk false [0, 1, 2, 3, 4] [] ?_
               try (conv => whnf)
               exact ⟨by have h := hbad (o := xs ++ S ++ [y]) (rsN_none5 hpos hk hm hk1 hz hn5) z3 (by simp; omega); simp only [List.length_append, List.length_singleton] at h; exact h⟩
          ·have hzt := Hid.mk (zag_tdiv0 hz2 z4)
           try (conv => whnf)
           repeat (first | (refine Need.mk ?_ ?_; (focus (first | omega | (simp; done))); conv => whnf) | (refine br_dec (fun _ => ?_) (fun _ => ?_) <;> first | (exfalso; omega) | conv => whnf) | (refine Pick.mk ?_ ?_ ?_; rotate_left; (focus (first | with_reducible exact hzt.out | (refine wid ?_ ?_ <;> omega) | (refine tmodn ?_; omega) | (refine wdiv ?_ ?_ ?_ <;> omega) | exact natlit _ | with_reducible rfl)); conv => whnf))
           refine LoopE.mk (fun (x : Nat × Int × List Int) => mk [(0, .one (.ptr 0 0)), (3, .one (.os (.v 8192) 1 0 (xs ++ x.2.2).length)), (4, vI .i64 n), (5, vI .i64 x.2.1), (6, vI .i64 x.1), (7, vI .i64 (zag z))] [(0, rdR l e false), (8192, .own 1 ((xs ++ x.2.2).map inD))])
            (fun x => x.1 + x.2.2.length = k ∧ (∀ w ∈ x.2.2, inM w) ∧ (0 < x.1 → inM x.2.1) ∧ (-(2 ^ 62) ≤ x.2.1 ∧ x.2.1 ≤ 2 ^ 62) ∧ seq v (zag z) k = x.2.2 ++ seq x.2.1 (zag z) x.1) (fun x => x.1) (k, v, []) ⟨by simp, by simp, fun _ => hv, by dsimp only; omega, by simp⟩ (LeX.of ?_) ?_
           ·try (conv => whnf)
            repeat (refine Need.mk ?_ ?_; (focus (first | omega | (simp; done))); conv => whnf)
            trivial
           ·rintro ⟨j, y, S⟩ ⟨j1, j2, j3, j4, j5⟩
            dsimp only at j1 j2 j3 j4 j5 ⊢
            rcases Nat.eq_zero_or_pos j with hj | hj
            ·subst hj
             simp only [seq, List.append_nil] at j5
             try (conv => whnf)
             repeat' (first
              | (refine SeqJ.thru ?_; conv => whnf)
              | (refine br_dec (fun _ => ?_) (fun _ => ?_) <;> first | (exfalso; omega) | contradiction | conv => whnf)
              | (refine br_not ?_; conv => whnf)
              | (refine br_bne (fun _ => ?_) (fun _ => ?_) <;> first | (exfalso; omega) | contradiction | conv => whnf)
              | (refine br_beq (fun _ => ?_) (fun _ => ?_) <;> first | (exfalso; omega) | contradiction | conv => whnf))
             refine Pick.mk (e, xs ++ S, false) ⟨⟨by simp; omega, z3, ?_, ?_⟩, by simp; omega⟩ (LeX.of ?_)
             ·exact fun y hy => (List.mem_append.1 hy).elim (h3 y) (j2 y)
             ·dsimp only
              rw [if_neg (by simp), h4, rsN_more hpos hk hm hok hk1 hz (fun w hw => j2 w (by rw [← j5]; exact hw)), Option.map_map, j5]
              simp only [List.length_append, Nat.sub_sub]
              rw [show S.length = k by omega]
              congr 1
              funext r
              simp
             ·try (conv => whnf)
              repeat (refine Need.mk ?_ ?_; (focus (first | omega | (simp; done))); conv => whnf)
              trivial
            ·obtain ⟨j, rfl⟩ : ∃ i, j = i + 1 := ⟨j - 1, by omega⟩
             have hy := j3 hj
             have hy' := hy
             unfold inM M4 at hy'
             have j6 := seq_app y _ S j j5
             have hS : ∀ w ∈ S ++ [y], inM w := fun w hw => (List.mem_append.1 hw).elim (j2 w) fun hw => by simp at hw; subst hw; exact hy
             by_cases hnx : 0 < j → inM (y + (zag z))
             ·have hnx' := hnx
              unfold inM M4 at hnx'
              try (conv => whnf)
              repeat' (first
               | (refine Need.mk ?_ ?_; (focus (first | omega | rfl)); conv => whnf)
               | (refine Pick.mk ?_ ?_ ?_; rotate_left; (focus (first | (simp only [List.length_map, List.length_append, List.length_cons, List.length_nil, List.length_replicate, Nat.zero_add]; rfl) | exact map_snoc inD _ _ | (simp only [chunks]; rfl) | (refine wid ?_ ?_ <;> omega) | (refine SlOf.full ?_; first | (simp; done) | (simp; omega)))); conv => whnf)
               | (refine SeqJ.thru ?_; conv => whnf)
               | (refine br_dec (fun _ => ?_) (fun _ => ?_) <;> first | (exfalso; omega) | contradiction | conv => whnf)
               | (refine br_not ?_; conv => whnf)
               | (refine br_bne (fun _ => ?_) (fun _ => ?_) <;> first | (exfalso; omega) | contradiction | conv => whnf)
               | (refine br_beq (fun _ => ?_) (fun _ => ?_) <;> first | (exfalso; omega) | contradiction | conv => whnf))
              all_goals
               refine Pick.mk (j, y + (zag z), S ++ [y]) ⟨⟨by simp; omega, hS, hnx, by dsimp only; omega, j6⟩, by dsimp only; omega⟩ (LeX.of ?_)
               try (conv => whnf)
               repeat (refine Need.mk ?_ ?_; (focus (first | omega | (simp; done) | (simp; omega))); conv => whnf)
               trivial
             ·have hj0 : 0 < j := Classical.byContradiction fun g => hnx fun h => absurd h g
              have hnn : ¬ inM (y + (zag z)) := fun g => hnx fun _ => g
              have hn5 : ¬ ∀ w ∈ seq v (zag z) k, inM w := fun h => hnn (h _ (by rw [j6]; obtain ⟨i, rfl⟩ : ∃ i, j = i + 1 := ⟨j - 1, by omega⟩; rw [seq_step]; simp))
              unfold inM M4 at hnn
              try (conv => whnf)
              repeat' (first
               | (refine Need.mk ?_ ?_; (focus (first | omega | rfl)); conv => whnf)
               | (refine Pick.mk ?_ ?_ ?_; rotate_left; (focus (first | (simp only [List.length_map, List.length_append, List.length_cons, List.length_nil, List.length_replicate, Nat.zero_add]; rfl) | exact map_snoc inD _ _ | (simp only [chunks]; rfl) | (refine wid ?_ ?_ <;> omega) | (refine SlOf.full ?_; first | (simp; done) | (simp; omega)))); conv => whnf)
               | (refine SeqJ.thru ?_; conv => whnf)
               | (refine br_dec (fun _ => ?_) (fun _ => ?_) <;> first | (exfalso; omega) | contradiction | conv => whnf)
               | (refine br_not ?_; conv => whnf)
               | (refine br_bne (fun _ => ?_) (fun _ => ?_) <;> first | (exfalso; omega) | contradiction | conv => whnf)
               | (refine br_beq (fun _ => ?_) (fun _ => ?_) <;> first | (exfalso; omega) | contradiction | conv => whnf))
              all_goals
               refine Out.mk false [0, 1, 2, 3, 4] [] ?_
               try (conv => whnf)
               exact ⟨by have h := hbad (o := xs ++ S ++ [y]) (rsN_none5 hpos hk hm hk1 hz hn5) z3 (by simp; omega); simp only [List.length_append, List.length_singleton] at h; exact h⟩
    ·try (conv => whnf)
     repeat' (first
      | (refine SeqJ.thru ?_; conv => whnf)
      | (refine br_dec (fun _ => ?_) (fun _ => ?_) <;> first | (exfalso; omega) | contradiction | conv => whnf)
      | (refine br_not ?_; conv => whnf)
      | (refine br_bne (fun _ => ?_) (fun _ => ?_) <;> first | (exfalso; omega) | contradiction | conv => whnf)
      | (refine br_beq (fun _ => ?_) (fun _ => ?_) <;> first | (exfalso; omega) | contradiction | conv => whnf))
     refine Out.mk false [0, 1, 2, 3, 4] [] ?_
     try (conv => whnf)
     exact ⟨b, false, xs, rfl, rfl, h2, by omega, by rw [h4, show n - xs.length = 0 by omega, rsN_0]; exact ⟨rfl, by simp, rfl⟩⟩
 ·have hT : getR0 l a = none := by
   simp only [getR0]
   split
   ·rfl
   ·rename_i n b h
    rw [if_neg fun hn => hg ⟨n, b, h, hn⟩]
  refine Hand.mk [] ?_
  try (conv => whnf)
  refine CallW.n (s_countN (fun x y h => by rcases Nat.lt_or_ge 4096 x with g | g; exact g; exact absurd ⟨x, y, h, g⟩ hg) (by omega) ha) ?_
  rintro _ _ ⟨b, rfl, rfl, hb⟩
  try (conv => whnf)
  repeat (refine SeqJ.thru ?_; conv => whnf)
  refine LoopE.mk (fun (_ : Nat) => mk [(0, .one (.ptr 0 0)), (3, .one (.os (.v 8192) 1 0 0)), (4, vI .i64 0)] [(0, rdR l b true), (8192, .own 1 [])]) (fun _ => True) (fun x => x) 0 trivial (LeX.of ?_) ?_
  ·try (conv => whnf)
   repeat (refine Need.mk ?_ ?_; (focus (first | omega | (simp; done))); conv => whnf)
   trivial
  ·rintro _ -
   try (conv => whnf)
   repeat' (first
    | (refine SeqJ.thru ?_; conv => whnf)
    | (refine br_dec (fun _ => ?_) (fun _ => ?_) <;> first | (exfalso; omega) | contradiction | conv => whnf)
    | (refine br_not ?_; conv => whnf)
    | (refine br_bne (fun _ => ?_) (fun _ => ?_) <;> first | (exfalso; omega) | contradiction | conv => whnf)
    | (refine br_beq (fun _ => ?_) (fun _ => ?_) <;> first | (exfalso; omega) | contradiction | conv => whnf))
   refine Out.mk false [0, 1, 2, 3, 4] [] ?_
   try (conv => whnf)
   exact ⟨b, true, [], rfl, rfl, hb, by simp, by rw [hT]⟩
end Go.Proofs.Ytpdjehnlejjfmaa.D
/- Lists of texts read, by both. -/
namespace Go.Proofs.Ytpdjehnlejjfmaa.D
open Go.RowKit
set_option maxRecDepth 100000
set_option maxHeartbeats 4000000
set_option linter.unusedVariables false
set_option linter.unusedSimpArgs false

def TxtP (l : List UInt8) (a : Nat) : SV → List Row → Prop := fun r Lo =>
 ∃ (b : Nat) (bad : Bool) (ts : List (List UInt8)), Lo = [rdR l b bad, .own 1 (ts.map tsD)] ∧ r = .one (.os (.v 1) 1 0 ts.length) ∧ b ≤ l.length ∧ match getT l a with | some (us, c) => bad = false ∧ ts = us ∧ b = c | none => bad = true
theorem tsN_step {l : List UInt8} {n a : Nat} {last : List UInt8} {all k b m c : Nat} (h1 : get l a = some (k, b)) (h2 : get l b = some (m, c)) :
    tsN l (n + 1) a last all = if k ≤ last.length ∧ m ≤ l.length - c ∧ all + (k + m) ≤ MaxB ∧ alike last (last.take k ++ (l.drop c).take m) = k then
          (tsN l n (c + m) (last.take k ++ (l.drop c).take m) (all + (k + m))).map fun r => ((last.take k ++ (l.drop c).take m) :: r.1, r.2)
        else none := by simp only [tsN, h1, h2]
theorem i_texts (l : List UInt8) (a : Nat) (hl : l.length ≤ 2 ^ 30) (ha : a ≤ l.length) :
  CallM Try.prog id_impl_reader_texts [.one (.ptr 0 0)] [rdR l a false] [] false (TxtP l a) := by
 refine F_impl_reader_texts ?_
 try (conv => whnf)
 cases hg : get l a with
 | none =>
  have hT : getT l a = none := by rw [getT, hg]
  refine Hand.mk [] ?_
  try (conv => whnf)
  refine CallW.n (i_numN hg (by omega) ha) ?_
  rintro _ _ ⟨b, rfl, rfl, hb⟩
  try (conv => whnf)
  repeat' (first
   | (refine SeqJ.thru ?_; conv => whnf)
   | (refine br_dec (fun _ => ?_) (fun _ => ?_) <;> first | (exfalso; omega) | contradiction | conv => whnf)
   | (refine br_not ?_; conv => whnf)
   | (refine br_bne (fun _ => ?_) (fun _ => ?_) <;> first | (exfalso; omega) | contradiction | conv => whnf)
   | (refine br_beq (fun _ => ?_) (fun _ => ?_) <;> first | (exfalso; omega) | contradiction | conv => whnf))
  refine Out.mk false [0, 1, 2, 3, 4] [(0, 1)] ?_
  try (conv => whnf)
  exact ⟨b, true, [], rfl, rfl, hb, by rw [hT]⟩
 | some r =>
  obtain ⟨n, b⟩ := r
  obtain ⟨g1, g2, g3, g4, g5⟩ := get_inv hg
  simp only [MaxN] at g4
  refine Hand.mk [] ?_
  try (conv => whnf)
  refine CallW.n (i_num hg (by omega)) ?_
  rintro _ _ ⟨rfl, rfl⟩
  try (conv => whnf)
  repeat' (first
   | (refine SeqJ.thru ?_; conv => whnf)
   | (refine br_dec (fun _ => ?_) (fun _ => ?_) <;> first | (exfalso; omega) | contradiction | conv => whnf)
   | (refine br_not ?_; conv => whnf)
   | (refine br_bne (fun _ => ?_) (fun _ => ?_) <;> first | (exfalso; omega) | contradiction | conv => whnf)
   | (refine br_beq (fun _ => ?_) (fun _ => ?_) <;> first | (exfalso; omega) | contradiction | conv => whnf))
  ·have hT : getT l a = none := by simp only [getT, hg]; rw [if_neg (by omega)]
   refine Out.mk false [0, 1, 2, 3, 4] [(0, 1)] ?_
   try (conv => whnf)
   exact ⟨b, true, [], rfl, rfl, g3, by rw [hT]⟩
  ·have hT : getT l a = tsN l n b [] 0 := by simp only [getT, hg]; rw [if_pos (by omega)]
   refine LoopE.mk (fun (x : Nat × Nat × List UInt8 × Nat × List (List UInt8)) => mk [(0, .one (.ptr 0 0)), (3, vI .i64 n), (4, .one (.os (.v 5000) 1 0 x.2.2.2.2.length)), (5, vS (bs x.2.2.1)), (6, vI .i64 x.2.2.2.1), (7, vI .i64 x.1)] [(0, rdR l x.2.1 false), (5000, .own 1 (x.2.2.2.2.map tsD))])
    (fun x => x.1 ≤ n ∧ x.2.1 ≤ l.length ∧ x.2.2.1.length ≤ x.2.2.2.1 ∧ x.2.2.2.1 ≤ MaxB ∧ x.2.2.2.2.length = x.1 ∧ getT l a = (tsN l (n - x.1) x.2.1 x.2.2.1 x.2.2.2.1).map fun r => (x.2.2.2.2 ++ r.1, r.2)) (fun x => n - x.1) (0, b, [], 0, []) ⟨by simp, g3, by simp, by simp, rfl, by simp [hT]⟩ (LeX.of ?_) ?_
   ·try (conv => whnf)
    repeat (refine Need.mk ?_ ?_; (focus (first | omega | (simp only [List.length_map, List.length_append, List.length_cons, List.length_nil, List.length_replicate]; omega) | (simp; done))); conv => whnf)
    trivial
   ·rintro ⟨i, b, last, all, out⟩ ⟨h1, h2, h3, h4, h5, h6⟩
    dsimp only at h1 h2 h3 h4 h5 h6 ⊢
    simp only [MaxB] at h4
    rcases Nat.lt_or_ge i n with hlt | hge
    ·have hbad : ∀ {c : Nat} {L : List UInt8}, tsN l (n - i) b last all = none → c ≤ l.length → TxtP l a (.one (.os (.v 1) 1 0 0)) [rdR l c true, .own 1 []] := fun h hc => ⟨_, true, [], rfl, rfl, hc, by rw [h6, h]; rfl⟩
     have hni : n - i = n - (i + 1) + 1 := by omega
     try (conv => whnf)
     repeat' (first
      | (refine SeqJ.thru ?_; conv => whnf)
      | (refine br_dec (fun _ => ?_) (fun _ => ?_) <;> first | (exfalso; omega) | contradiction | conv => whnf)
      | (refine br_not ?_; conv => whnf)
      | (refine br_bne (fun _ => ?_) (fun _ => ?_) <;> first | (exfalso; omega) | contradiction | conv => whnf)
      | (refine br_beq (fun _ => ?_) (fun _ => ?_) <;> first | (exfalso; omega) | contradiction | conv => whnf))
     cases hk : get l b with
     | none =>
      have hT2 : tsN l (n - i) b last all = none := by rw [hni]; simp only [tsN, hk]
      refine Hand.mk [] ?_
      try (conv => whnf)
      refine CallW.n (i_numN hk (by omega) h2) ?_
      rintro _ _ ⟨c, rfl, rfl, hc⟩
      try (conv => whnf)
      refine Hand.mk [] ?_
      try (conv => whnf)
      refine CallW.n (i_numB (by omega) hc) ?_
      rintro _ _ ⟨c, rfl, rfl, hc⟩
      try (conv => whnf)
      repeat' (first
       | (refine SeqJ.thru ?_; conv => whnf)
       | (refine br_dec (fun _ => ?_) (fun _ => ?_) <;> first | (exfalso; omega) | contradiction | conv => whnf)
       | (refine br_not ?_; conv => whnf)
       | (refine br_bne (fun _ => ?_) (fun _ => ?_) <;> first | (exfalso; omega) | contradiction | conv => whnf)
       | (refine br_beq (fun _ => ?_) (fun _ => ?_) <;> first | (exfalso; omega) | contradiction | conv => whnf))
      refine Out.mk false [0, 1, 2, 3, 4] [(0, 1)] ?_
      try (conv => whnf)
      exact ⟨hbad (L := l) hT2 hc⟩
     | some r =>
      obtain ⟨k, c⟩ := r
      obtain ⟨k1, k2, k3, k4, k5⟩ := get_inv hk
      simp only [MaxN] at k4
      refine Hand.mk [] ?_
      try (conv => whnf)
      refine CallW.n (i_num hk (by omega)) ?_
      rintro _ _ ⟨rfl, rfl⟩
      try (conv => whnf)
      cases hm : get l c with
      | none =>
       have hT2 : tsN l (n - i) b last all = none := by rw [hni]; simp only [tsN, hk, hm]
       refine Hand.mk [] ?_
       try (conv => whnf)
       refine CallW.n (i_numN hm (by omega) k3) ?_
       rintro _ _ ⟨d, rfl, rfl, hc⟩
       try (conv => whnf)
       repeat' (first
        | (refine SeqJ.thru ?_; conv => whnf)
        | (refine br_dec (fun _ => ?_) (fun _ => ?_) <;> first | (exfalso; omega) | contradiction | conv => whnf)
        | (refine br_not ?_; conv => whnf)
        | (refine br_bne (fun _ => ?_) (fun _ => ?_) <;> first | (exfalso; omega) | contradiction | conv => whnf)
        | (refine br_beq (fun _ => ?_) (fun _ => ?_) <;> first | (exfalso; omega) | contradiction | conv => whnf))
       refine Out.mk false [0, 1, 2, 3, 4] [(0, 1)] ?_
       try (conv => whnf)
       exact ⟨hbad (L := l) hT2 hc⟩
      | some r =>
       obtain ⟨m, d⟩ := r
       obtain ⟨m1, m2, m3, m4, m5⟩ := get_inv hm
       simp only [MaxN] at m4
       have hT2 := tsN_step (n := n - (i + 1)) (last := last) (all := all) hk hm
       rw [← hni] at hT2
       refine Hand.mk [] ?_
       try (conv => whnf)
       refine CallW.n (i_num hm (by omega)) ?_
       rintro _ _ ⟨rfl, rfl⟩
       try (conv => whnf)
       repeat' (first
        | (refine Pick.mk ?_ ?_ ?_; rotate_left; (focus (exact size_bs _)); conv => whnf)
        | (refine SeqJ.thru ?_; conv => whnf)
        | (refine br_dec (fun _ => ?_) (fun _ => ?_) <;> first | (exfalso; omega) | contradiction | conv => whnf)
        | (refine br_not ?_; conv => whnf)
        | (refine br_bne (fun _ => ?_) (fun _ => ?_) <;> first | (exfalso; omega) | contradiction | conv => whnf)
        | (refine br_beq (fun _ => ?_) (fun _ => ?_) <;> first | (exfalso; omega) | contradiction | conv => whnf))
       ·refine Out.mk false [0, 1, 2, 3, 4] [(0, 1)] ?_
        try (conv => whnf)
        exact ⟨hbad (L := l) (by rw [hT2, if_neg (by omega)]) m3⟩
       ·rcases Nat.lt_or_ge (l.length - d) m with hlm | hlm
        ·refine Hand.mk [] ?_
         try (conv => whnf)
         refine CallW.n (i_textN (.inr hlm) m3 (by omega) (by simp only [MaxN]; omega)) ?_
         rintro _ _ ⟨rfl, rfl⟩
         try (conv => whnf)
         repeat' (first
          | (refine SeqJ.thru ?_; conv => whnf)
          | (refine br_dec (fun _ => ?_) (fun _ => ?_) <;> first | (exfalso; omega) | contradiction | conv => whnf)
          | (refine br_not ?_; conv => whnf)
          | (refine br_bne (fun _ => ?_) (fun _ => ?_) <;> first | (exfalso; omega) | contradiction | conv => whnf)
          | (refine br_beq (fun _ => ?_) (fun _ => ?_) <;> first | (exfalso; omega) | contradiction | conv => whnf))
         refine Out.mk false [0, 1, 2, 3, 4] [(0, 1)] ?_
         try (conv => whnf)
         exact ⟨hbad (L := l) (by rw [hT2, if_neg (by omega)]) m3⟩
        ·refine Hand.mk [] ?_
         try (conv => whnf)
         refine CallW.n (i_text hlm m3 (by omega)) ?_
         rintro _ _ ⟨rfl, rfl⟩
         have hlen : (last.take k ++ (l.drop d).take m).length = k + m := by simp; omega
         have hdm : d + m ≤ l.length := by omega
         try (conv => whnf)
         repeat' (first
          | (refine Need.mk ?_ ?_; (focus ((simp; omega))); conv => whnf)
          | (refine Pick.mk ?_ ?_ ?_; rotate_left; (focus (first | assumption | with_reducible exact bs_app _ _ | exact bs_extract0 _ _ | (refine bnd_id ?_; omega) | exact size_bs _ | (refine wid ?_ ?_ <;> omega))); conv => whnf)
          | (refine SeqJ.thru ?_; conv => whnf)
          | (refine br_dec (fun _ => ?_) (fun _ => ?_) <;> first | (exfalso; omega) | contradiction | conv => whnf)
          | (refine br_not ?_; conv => whnf)
          | (refine br_bne (fun _ => ?_) (fun _ => ?_) <;> first | (exfalso; omega) | contradiction | conv => whnf)
          | (refine br_beq (fun _ => ?_) (fun _ => ?_) <;> first | (exfalso; omega) | contradiction | conv => whnf))
         ·refine Out.mk false [0, 1, 2, 3, 4] [(0, 1)] ?_
          try (conv => whnf)
          exact ⟨hbad (L := l) (by rw [hT2, if_neg (by simp only [MaxB]; omega)]) hdm⟩
         ·refine Hand.mk [] ?_
          try (conv => whnf)
          refine CallW.d (i_common last (last.take k ++ (l.drop d).take m) (by omega) (by omega)) ?_
          try (conv => whnf)
          try (conv => whnf)
          repeat' (first
           | (refine Need.mk ?_ ?_; (focus (first | omega | rfl)); conv => whnf)
           | (refine Pick.mk ?_ ?_ ?_; rotate_left; (focus (first | (simp only [List.length_map, List.length_append, List.length_cons, List.length_nil, List.length_replicate, Nat.zero_add]; rfl) | exact map_snoc tsD _ _ | (simp only [chunks]; rfl) | (refine wid ?_ ?_ <;> omega) | (refine SlOf.full ?_; first | (simp; done) | (simp; omega)))); conv => whnf)
           | (refine br_dec (fun _ => ?_) (fun _ => ?_) <;> first | (exfalso; omega) | contradiction | conv => whnf)
           | (refine br_not ?_; conv => whnf)
           | (refine br_bne (fun _ => ?_) (fun _ => ?_) <;> first | (exfalso; omega) | contradiction | conv => whnf)
           | (refine br_beq (fun _ => ?_) (fun _ => ?_) <;> first | (exfalso; omega) | contradiction | conv => whnf))
          rotate_left
          ·refine Out.mk false [0, 1, 2, 3, 4] [(0, 1)] ?_
           try (conv => whnf)
           exact ⟨hbad (L := l) (by rw [hT2, if_neg (by omega)]) hdm⟩
          ·have hak : alike last (last.take k ++ (l.drop d).take m) = k := by omega
           refine Pick.mk (i + 1, d + m, (last.take k ++ (l.drop d).take m), all + (k + m), out ++ [(last.take k ++ (l.drop d).take m)]) ⟨⟨hlt, hdm, by dsimp only; omega, by simp only [MaxB]; omega, by simp [h5], ?_⟩, by dsimp only; omega⟩ (LeX.of ?_)
           ·dsimp only
            rw [h6, hT2, if_pos ⟨by omega, hlm, by simp only [MaxB]; omega, hak⟩, Option.map_map]
            congr 1
            funext r
            simp
           ·try (conv => whnf)
            repeat (refine Need.mk ?_ ?_; (focus (first | omega | (simp only [List.length_map, List.length_append, List.length_cons, List.length_nil, List.length_replicate]; omega) | (simp; done))); conv => whnf)
            trivial
    ·rw [show n - i = 0 by omega] at h6
     simp only [tsN, Option.map_some, List.append_nil] at h6
     try (conv => whnf)
     repeat' (first
      | (refine SeqJ.thru ?_; conv => whnf)
      | (refine br_dec (fun _ => ?_) (fun _ => ?_) <;> first | (exfalso; omega) | contradiction | conv => whnf)
      | (refine br_not ?_; conv => whnf)
      | (refine br_bne (fun _ => ?_) (fun _ => ?_) <;> first | (exfalso; omega) | contradiction | conv => whnf)
      | (refine br_beq (fun _ => ?_) (fun _ => ?_) <;> first | (exfalso; omega) | contradiction | conv => whnf))
     refine Out.mk false [0, 1, 2, 3, 4] [] ?_
     try (conv => whnf)
     exact ⟨b, false, out, rfl, rfl, h2, by rw [h6]; exact ⟨rfl, rfl, rfl⟩⟩
theorem s_texts (l : List UInt8) (a : Nat) (hl : l.length ≤ 2 ^ 30) (ha : a ≤ l.length) :
  CallM Try.prog id_spec_l01Reader_texts [.one (.ptr 0 0)] [rdR l a false] [] false (TxtP l a) := by
 refine F_spec_l01Reader_texts ?_
 try (conv => whnf)
 repeat (refine Pick.mk ?_ ?_ ?_; rotate_left; (focus ((simp only [chunks]; rfl))); conv => whnf)
 by_cases hg : ∃ n b, get l a = some (n, b) ∧ n ≤ 4096
 ·obtain ⟨n, b, hg, hn⟩ := hg
  obtain ⟨g1, g2, g3, g4, g5⟩ := get_inv hg
  have hT : getT l a = tsN l n b [] 0 := by simp only [getT, hg]; rw [if_pos (by omega)]
  refine Hand.mk [] ?_
  try (conv => whnf)
  refine CallW.n (s_count hg hn (by omega)) ?_
  rintro _ _ ⟨rfl, rfl⟩
  try (conv => whnf)
  refine LoopE.mk (fun (x : Nat × Nat × List UInt8 × Nat × List (List UInt8) × Bool) => mk [(0, .one (.ptr 0 0)), (3, .one (.os (.v 8192) 1 0 x.2.2.2.2.1.length)), (4, vS (bs x.2.2.1)), (5, vI .i64 x.2.2.2.1), (6, vI .i64 x.1)] [(0, rdR l x.2.1 x.2.2.2.2.2), (8192, .own 1 (x.2.2.2.2.1.map tsD))])
   (fun x => x.1 ≤ n ∧ x.2.1 ≤ l.length ∧ x.2.2.1.length ≤ x.2.2.2.1 ∧ x.2.2.2.1 ≤ 2 ^ 30 + 2 ^ 32 * (n - x.1) ∧ x.2.2.2.2.1.length = n - x.1 ∧
    if x.2.2.2.2.2 then getT l a = none else x.2.2.2.1 ≤ MaxB ∧ getT l a = (tsN l x.1 x.2.1 x.2.2.1 x.2.2.2.1).map fun r => (x.2.2.2.2.1 ++ r.1, r.2)) (fun x => x.1) (n, b, [], 0, [], false) ⟨by simp, g3, by simp, by simp, by simp, by simp [hT]⟩ (LeX.of ?_) ?_
  ·try (conv => whnf)
   repeat (refine Need.mk ?_ ?_; (focus (first | omega | (simp only [List.length_map, List.length_append, List.length_cons, List.length_nil, List.length_replicate]; omega) | (simp; done))); conv => whnf)
   trivial
  ·rintro ⟨i, b, last, all, out, bad⟩ ⟨h1, h2, h3, h4, h5, h6⟩
   dsimp only at h1 h2 h3 h4 h5 h6 ⊢
   cases bad with
   | true =>
    rw [if_pos rfl] at h6
    try (conv => whnf)
    repeat' (first
     | (refine SeqJ.thru ?_; conv => whnf)
     | (refine br_dec (fun _ => ?_) (fun _ => ?_) <;> first | (exfalso; omega) | contradiction | conv => whnf)
     | (refine br_not ?_; conv => whnf)
     | (refine br_bne (fun _ => ?_) (fun _ => ?_) <;> first | (exfalso; omega) | contradiction | conv => whnf)
     | (refine br_beq (fun _ => ?_) (fun _ => ?_) <;> first | (exfalso; omega) | contradiction | conv => whnf))
    all_goals
     refine Out.mk false [0, 1, 2, 3, 4] [] ?_
     try (conv => whnf)
     exact ⟨b, true, out, rfl, rfl, h2, by rw [h6]⟩
   | false =>
    rw [if_neg (by simp)] at h6
    obtain ⟨h4', h6⟩ := h6
    simp only [MaxB] at h4'
    rcases Nat.eq_zero_or_pos i with h0 | h0
    ·subst h0
     simp only [tsN, Option.map_some, List.append_nil] at h6
     try (conv => whnf)
     repeat' (first
      | (refine SeqJ.thru ?_; conv => whnf)
      | (refine br_dec (fun _ => ?_) (fun _ => ?_) <;> first | (exfalso; omega) | contradiction | conv => whnf)
      | (refine br_not ?_; conv => whnf)
      | (refine br_bne (fun _ => ?_) (fun _ => ?_) <;> first | (exfalso; omega) | contradiction | conv => whnf)
      | (refine br_beq (fun _ => ?_) (fun _ => ?_) <;> first | (exfalso; omega) | contradiction | conv => whnf))
     refine Out.mk false [0, 1, 2, 3, 4] [] ?_
     try (conv => whnf)
     exact ⟨b, false, out, rfl, rfl, h2, by rw [h6]; exact ⟨rfl, rfl, rfl⟩⟩
    ·obtain ⟨j, rfl⟩ : ∃ j, i = j + 1 := ⟨i - 1, by omega⟩
     have hset : ∀ {c : Nat} {o : List (List UInt8)}, tsN l (j + 1) b last all = none → c ≤ l.length → TxtP l a (.one (.os (.v 1) 1 0 o.length)) [rdR l c true, .own 1 (o.map tsD)] := fun h hc => ⟨_, true, _, rfl, rfl, hc, by rw [h6, h]; rfl⟩
     try (conv => whnf)
     repeat' (first
      | (refine SeqJ.thru ?_; conv => whnf)
      | (refine br_dec (fun _ => ?_) (fun _ => ?_) <;> first | (exfalso; omega) | contradiction | conv => whnf)
      | (refine br_not ?_; conv => whnf)
      | (refine br_bne (fun _ => ?_) (fun _ => ?_) <;> first | (exfalso; omega) | contradiction | conv => whnf)
      | (refine br_beq (fun _ => ?_) (fun _ => ?_) <;> first | (exfalso; omega) | contradiction | conv => whnf))
     cases hk : get l b with
     | none =>
      have hT2 : tsN l (j + 1) b last all = none := by simp only [tsN, hk]
      refine Hand.mk [] ?_
      try (conv => whnf)
      refine CallW.n (s_numN hk (by omega) h2) ?_
      rintro _ _ ⟨c, rfl, rfl, hc⟩
      try (conv => whnf)
      repeat' (first
       | (refine Pick.mk ?_ ?_ ?_; rotate_left; (focus (first | exact bs_extract0 _ _ | (refine bnd_int ?_ ?_ <;> omega) | exact size_bs _)); conv => whnf)
       | (refine SeqJ.thru ?_; conv => whnf)
       | (refine br_dec (fun _ => ?_) (fun _ => ?_) <;> first | (exfalso; omega) | contradiction | conv => whnf)
       | (refine br_not ?_; conv => whnf)
       | (refine br_bne (fun _ => ?_) (fun _ => ?_) <;> first | (exfalso; omega) | contradiction | conv => whnf)
       | (refine br_beq (fun _ => ?_) (fun _ => ?_) <;> first | (exfalso; omega) | contradiction | conv => whnf))
      refine Hand.mk [] ?_
      try (conv => whnf)
      refine CallW.n (s_numB (by omega) hc) ?_
      rintro _ _ ⟨c, rfl, rfl, hc⟩
      try (conv => whnf)
      repeat (refine Need.mk ?_ ?_; (focus (((conv => whnf); (repeat (first | (refine Need.mk (by first | rfl | omega | (simp; done)) ?_; conv => whnf) | (refine Pick.mk ?_ ?_ ?_; rotate_left; (focus (first | with_reducible exact xor_u8 _ _ | (with_reducible refine xor_i64 ?_ ?_; all_goals omega) | (with_reducible refine xor_u32 ?_ ?_; all_goals omega) | assumption | with_reducible exact set_byN _ _ _ _ | with_reducible exact set_byI _ _ _ _ | with_reducible exact set_inN _ _ _ _ | with_reducible exact set_inI _ _ _ _ | with_reducible exact set_stN _ _ _ _ | with_reducible exact set_tsN _ _ _ _ | with_reducible exact set_tsI _ _ _ _ | with_reducible exact set_boN _ _ _ _ | with_reducible exact set_boI _ _ _ _ | (with_reducible refine get_mapN _ _ _ ?_; first | omega | (simp; omega)) | (with_reducible refine get_mapI _ _ _ ?_ ?_ <;> first | omega | (simp; omega)) | exact bs_beq _ _ | exact bs_less _ _ | exact bs_leq _ _ | with_reducible exact bs_app _ _ | (refine bs_get _ _ ?_; omega) | (refine bs_int _ _ ?_ ?_ <;> omega) | with_reducible exact sl_map0 _ _ _ | with_reducible exact sl_mapN _ _ _ | with_reducible exact sl_map _ _ _ _ | exact bs_extract0 _ _ | exact bs_extractN _ _ | exact bs_extract _ _ _ | (refine bnd_id ?_; omega) | (refine bnd_sub ?_ ?_ <;> omega) | (refine bnd_add ?_; omega) | (refine bnd_subN ?_ ?_ <;> omega) | (refine bnd_int ?_ ?_ <;> omega) | ((show @Eq Nat (_ + Int.toNat _ * _) _); simp only [Int.toNat_natCast, Nat.zero_add, Nat.mul_one]; rfl) | ((show @Eq (List _) (List.set [_] _ _) _); simp only [List.set_cons_zero]; rfl) | exact List.length_map _ | exact size_bs _ | (simp only [List.length_map, List.length_append, List.length_cons, List.length_nil, List.length_replicate, Nat.zero_add]; rfl) | with_reducible exact List.nil_append _ | with_reducible exact map_app _ _ _ | exact map_snoc byD _ _ | exact map_snoc inD _ _ | exact map_snoc stD _ _ | exact map_snoc tsD _ _ | (simp only [chunks]; rfl) | (refine wid ?_ ?_ <;> omega) | exact wby _ | with_reducible exact wby32 _ | with_reducible exact wu32 _ | exact wby64 _ | exact shr8 _ | exact shr16 _ | exact shr24 _ | exact shr32 _ | (refine tmodn ?_; omega) | (refine wdiv ?_ ?_ ?_ <;> omega) | exact wbyte _ | exact natlit _ | exact rep_by _ | exact rep_in _ | exact rep_bo _ | exact rep_st _ | (refine pick_nat _ _ _ ?_; omega) | (refine pick_int _ _ _ ?_ ?_ <;> omega) | (refine SlOf.full ?_; first | (simp; done) | (simp; omega)) | (with_reducible refine SlOf.pre _ _ ?_; first | omega | (simp; omega)) | (refine SlF.self _ _ ?_ ?_; (first | rfl | omega | (simp; done) | (simp; omega)); (exact fun _ => rfl)) | (refine SlF.pre _ _ ?_ ?_; (first | omega | (simp; omega)); (exact fun _ => rfl)) | (refine SlF.same ?_ ?_; (first | rfl | omega | (simp; done) | (simp; omega)); (first | exact fz_self _ _ (fun _ => rfl) | exact fz_pl rfl | (refine Fz.append ?_ ?_ <;> first | exact fz_self _ _ (fun _ => rfl) | exact fz_pl rfl) | (refine Fz.append (Fz.append ?_ ?_) ?_ <;> first | exact fz_self _ _ (fun _ => rfl) | exact fz_pl rfl))) | (simp only [Int.toNat_natCast, Nat.zero_add, Nat.mul_one]; rfl) | ((show @Eq (Option CV) _ _); rfl) | ((fail_if_success (show @Eq (Option _) _ _)); rfl) | ((show @Eq (Option _) _ _); simp only [List.getElem?_cons_zero, List.getElem?_cons_succ]; done) | ((show @Eq (Option _) _ _); simp only [List.getElem?_cons_zero, List.getElem?_cons_succ]; rfl) | with_reducible rfl)); conv => whnf))); exact Done.mk trivial))); conv => whnf)
      refine Hand.mk [] ?_
      try (conv => whnf)
      refine CallW.n (s_takeN (n := 0) (.inl rfl) hc (by omega) (by simp)) ?_
      rintro _ _ ⟨rfl, rfl⟩
      have hlt : ((last.take 0) : List UInt8).length ≤ 2 ^ 31 := (by simp)
      have hq : bs (last.take 0) ++ bs [] = bs (last.take 0) := by rw [bs_app, List.append_nil]
      try (conv => whnf)
      repeat (first
       | (refine Need.mk ?_ ?_; (focus (first | (simp; done) | ((conv => whnf); (repeat (first | (refine Need.mk (by first | rfl | omega | (simp; done)) ?_; conv => whnf) | (refine Pick.mk ?_ ?_ ?_; rotate_left; (focus (first | with_reducible exact xor_u8 _ _ | (with_reducible refine xor_i64 ?_ ?_; all_goals omega) | (with_reducible refine xor_u32 ?_ ?_; all_goals omega) | assumption | with_reducible exact set_byN _ _ _ _ | with_reducible exact set_byI _ _ _ _ | with_reducible exact set_inN _ _ _ _ | with_reducible exact set_inI _ _ _ _ | with_reducible exact set_stN _ _ _ _ | with_reducible exact set_tsN _ _ _ _ | with_reducible exact set_tsI _ _ _ _ | with_reducible exact set_boN _ _ _ _ | with_reducible exact set_boI _ _ _ _ | (with_reducible refine get_mapN _ _ _ ?_; first | omega | (simp; omega)) | (with_reducible refine get_mapI _ _ _ ?_ ?_ <;> first | omega | (simp; omega)) | exact bs_beq _ _ | exact bs_less _ _ | exact bs_leq _ _ | with_reducible exact bs_app _ _ | (refine bs_get _ _ ?_; omega) | (refine bs_int _ _ ?_ ?_ <;> omega) | with_reducible exact sl_map0 _ _ _ | with_reducible exact sl_mapN _ _ _ | with_reducible exact sl_map _ _ _ _ | exact bs_extract0 _ _ | exact bs_extractN _ _ | exact bs_extract _ _ _ | (refine bnd_id ?_; omega) | (refine bnd_sub ?_ ?_ <;> omega) | (refine bnd_add ?_; omega) | (refine bnd_subN ?_ ?_ <;> omega) | (refine bnd_int ?_ ?_ <;> omega) | ((show @Eq Nat (_ + Int.toNat _ * _) _); simp only [Int.toNat_natCast, Nat.zero_add, Nat.mul_one]; rfl) | ((show @Eq (List _) (List.set [_] _ _) _); simp only [List.set_cons_zero]; rfl) | exact List.length_map _ | exact size_bs _ | (simp only [List.length_map, List.length_append, List.length_cons, List.length_nil, List.length_replicate, Nat.zero_add]; rfl) | with_reducible exact List.nil_append _ | with_reducible exact map_app _ _ _ | exact map_snoc byD _ _ | exact map_snoc inD _ _ | exact map_snoc stD _ _ | exact map_snoc tsD _ _ | (simp only [chunks]; rfl) | (refine wid ?_ ?_ <;> omega) | exact wby _ | with_reducible exact wby32 _ | with_reducible exact wu32 _ | exact wby64 _ | exact shr8 _ | exact shr16 _ | exact shr24 _ | exact shr32 _ | (refine tmodn ?_; omega) | (refine wdiv ?_ ?_ ?_ <;> omega) | exact wbyte _ | exact natlit _ | exact rep_by _ | exact rep_in _ | exact rep_bo _ | exact rep_st _ | (refine pick_nat _ _ _ ?_; omega) | (refine pick_int _ _ _ ?_ ?_ <;> omega) | (refine SlOf.full ?_; first | (simp; done) | (simp; omega)) | (with_reducible refine SlOf.pre _ _ ?_; first | omega | (simp; omega)) | (refine SlF.self _ _ ?_ ?_; (first | rfl | omega | (simp; done) | (simp; omega)); (exact fun _ => rfl)) | (refine SlF.pre _ _ ?_ ?_; (first | omega | (simp; omega)); (exact fun _ => rfl)) | (refine SlF.same ?_ ?_; (first | rfl | omega | (simp; done) | (simp; omega)); (first | exact fz_self _ _ (fun _ => rfl) | exact fz_pl rfl | (refine Fz.append ?_ ?_ <;> first | exact fz_self _ _ (fun _ => rfl) | exact fz_pl rfl) | (refine Fz.append (Fz.append ?_ ?_) ?_ <;> first | exact fz_self _ _ (fun _ => rfl) | exact fz_pl rfl))) | (simp only [Int.toNat_natCast, Nat.zero_add, Nat.mul_one]; rfl) | ((show @Eq (Option CV) _ _); rfl) | ((fail_if_success (show @Eq (Option _) _ _)); rfl) | ((show @Eq (Option _) _ _); simp only [List.getElem?_cons_zero, List.getElem?_cons_succ]; done) | ((show @Eq (Option _) _ _); simp only [List.getElem?_cons_zero, List.getElem?_cons_succ]; rfl) | with_reducible rfl)); conv => whnf))); exact Done.mk trivial))); conv => whnf)
       | (refine Pick.mk ?_ ?_ ?_; rotate_left; (focus (assumption)); conv => whnf)
       | (refine SeqJ.thru ?_; conv => whnf))
      refine Hand.mk [] ?_
      try (conv => whnf)
      refine CallW.d (s_l01Alike last (last.take 0) (by omega) (by omega)) ?_
      try (conv => whnf)
      try (conv => whnf)
      repeat' (first
       | (refine Need.mk ?_ ?_; (focus (first | omega | rfl)); conv => whnf)
       | (refine Pick.mk ?_ ?_ ?_; rotate_left; (focus (first | exact size_bs _ | (simp only [List.length_map, List.length_append, List.length_cons, List.length_nil, List.length_replicate, Nat.zero_add]; rfl) | exact map_snoc tsD _ _ | (simp only [chunks]; rfl) | (refine wid ?_ ?_ <;> omega) | (refine SlOf.full ?_; first | (simp; done) | (simp; omega)))); conv => whnf)
       | (refine SeqJ.thru ?_; conv => whnf)
       | (refine br_dec (fun _ => ?_) (fun _ => ?_) <;> first | (exfalso; omega) | contradiction | conv => whnf)
       | (refine br_not ?_; conv => whnf)
       | (refine br_bne (fun _ => ?_) (fun _ => ?_) <;> first | (exfalso; omega) | contradiction | conv => whnf)
       | (refine br_beq (fun _ => ?_) (fun _ => ?_) <;> first | (exfalso; omega) | contradiction | conv => whnf))
      all_goals
       refine Pick.mk (j, c, (last.take 0), all + ((last.take 0) : List UInt8).length, out ++ [(last.take 0)], true) ⟨⟨by dsimp only; omega, hc, by dsimp only; omega, by dsimp only; omega, by simp; omega, by rw [if_pos rfl, h6, hT2]; rfl⟩, by dsimp only; omega⟩ (LeX.of ?_)
       try (conv => whnf)
       repeat (refine Need.mk ?_ ?_; (focus (first | omega | (simp only [List.length_map, List.length_append, List.length_cons, List.length_nil, List.length_replicate]; omega) | (simp; done))); conv => whnf)
       trivial
     | some r =>
      obtain ⟨k, c⟩ := r
      obtain ⟨k1, k2, k3, k4, k5⟩ := get_inv hk
      simp only [MaxN] at k4
      refine Hand.mk [] ?_
      try (conv => whnf)
      refine CallW.n (s_num hk (by omega)) ?_
      rintro _ _ ⟨rfl, rfl⟩
      try (conv => whnf)
      repeat' (first
       | (refine Pick.mk ?_ ?_ ?_; rotate_left; (focus (first | exact bs_extract0 _ _ | (refine bnd_id ?_; omega) | exact size_bs _)); conv => whnf)
       | (refine SeqJ.thru ?_; conv => whnf)
       | (refine br_dec (fun _ => ?_) (fun _ => ?_) <;> first | (exfalso; omega) | contradiction | conv => whnf)
       | (refine br_not ?_; conv => whnf)
       | (refine br_bne (fun _ => ?_) (fun _ => ?_) <;> first | (exfalso; omega) | contradiction | conv => whnf)
       | (refine br_beq (fun _ => ?_) (fun _ => ?_) <;> first | (exfalso; omega) | contradiction | conv => whnf))
      ·have hT2 : tsN l (j + 1) b last all = none := by
        simp only [tsN, hk]
        split
        ·rfl
        ·rw [if_neg (by omega)]
       refine Out.mk false [0, 1, 2, 3, 4] [] ?_
       try (conv => whnf)
       exact ⟨hset hT2 k3⟩
      ·cases hm : get l c with
       | none =>
        have hT2 : tsN l (j + 1) b last all = none := by simp only [tsN, hk, hm]
        refine Hand.mk [] ?_
        try (conv => whnf)
        refine CallW.n (s_numN hm (by omega) k3) ?_
        rintro _ _ ⟨d, rfl, rfl, hd⟩
        try (conv => whnf)
        repeat (refine Need.mk ?_ ?_; (focus (((conv => whnf); (repeat (first | (refine Need.mk (by first | rfl | omega | (simp; done)) ?_; conv => whnf) | (refine Pick.mk ?_ ?_ ?_; rotate_left; (focus (first | with_reducible exact xor_u8 _ _ | (with_reducible refine xor_i64 ?_ ?_; all_goals omega) | (with_reducible refine xor_u32 ?_ ?_; all_goals omega) | assumption | with_reducible exact set_byN _ _ _ _ | with_reducible exact set_byI _ _ _ _ | with_reducible exact set_inN _ _ _ _ | with_reducible exact set_inI _ _ _ _ | with_reducible exact set_stN _ _ _ _ | with_reducible exact set_tsN _ _ _ _ | with_reducible exact set_tsI _ _ _ _ | with_reducible exact set_boN _ _ _ _ | with_reducible exact set_boI _ _ _ _ | (with_reducible refine get_mapN _ _ _ ?_; first | omega | (simp; omega)) | (with_reducible refine get_mapI _ _ _ ?_ ?_ <;> first | omega | (simp; omega)) | exact bs_beq _ _ | exact bs_less _ _ | exact bs_leq _ _ | with_reducible exact bs_app _ _ | (refine bs_get _ _ ?_; omega) | (refine bs_int _ _ ?_ ?_ <;> omega) | with_reducible exact sl_map0 _ _ _ | with_reducible exact sl_mapN _ _ _ | with_reducible exact sl_map _ _ _ _ | exact bs_extract0 _ _ | exact bs_extractN _ _ | exact bs_extract _ _ _ | (refine bnd_id ?_; omega) | (refine bnd_sub ?_ ?_ <;> omega) | (refine bnd_add ?_; omega) | (refine bnd_subN ?_ ?_ <;> omega) | (refine bnd_int ?_ ?_ <;> omega) | ((show @Eq Nat (_ + Int.toNat _ * _) _); simp only [Int.toNat_natCast, Nat.zero_add, Nat.mul_one]; rfl) | ((show @Eq (List _) (List.set [_] _ _) _); simp only [List.set_cons_zero]; rfl) | exact List.length_map _ | exact size_bs _ | (simp only [List.length_map, List.length_append, List.length_cons, List.length_nil, List.length_replicate, Nat.zero_add]; rfl) | with_reducible exact List.nil_append _ | with_reducible exact map_app _ _ _ | exact map_snoc byD _ _ | exact map_snoc inD _ _ | exact map_snoc stD _ _ | exact map_snoc tsD _ _ | (simp only [chunks]; rfl) | (refine wid ?_ ?_ <;> omega) | exact wby _ | with_reducible exact wby32 _ | with_reducible exact wu32 _ | exact wby64 _ | exact shr8 _ | exact shr16 _ | exact shr24 _ | exact shr32 _ | (refine tmodn ?_; omega) | (refine wdiv ?_ ?_ ?_ <;> omega) | exact wbyte _ | exact natlit _ | exact rep_by _ | exact rep_in _ | exact rep_bo _ | exact rep_st _ | (refine pick_nat _ _ _ ?_; omega) | (refine pick_int _ _ _ ?_ ?_ <;> omega) | (refine SlOf.full ?_; first | (simp; done) | (simp; omega)) | (with_reducible refine SlOf.pre _ _ ?_; first | omega | (simp; omega)) | (refine SlF.self _ _ ?_ ?_; (first | rfl | omega | (simp; done) | (simp; omega)); (exact fun _ => rfl)) | (refine SlF.pre _ _ ?_ ?_; (first | omega | (simp; omega)); (exact fun _ => rfl)) | (refine SlF.same ?_ ?_; (first | rfl | omega | (simp; done) | (simp; omega)); (first | exact fz_self _ _ (fun _ => rfl) | exact fz_pl rfl | (refine Fz.append ?_ ?_ <;> first | exact fz_self _ _ (fun _ => rfl) | exact fz_pl rfl) | (refine Fz.append (Fz.append ?_ ?_) ?_ <;> first | exact fz_self _ _ (fun _ => rfl) | exact fz_pl rfl))) | (simp only [Int.toNat_natCast, Nat.zero_add, Nat.mul_one]; rfl) | ((show @Eq (Option CV) _ _); rfl) | ((fail_if_success (show @Eq (Option _) _ _)); rfl) | ((show @Eq (Option _) _ _); simp only [List.getElem?_cons_zero, List.getElem?_cons_succ]; done) | ((show @Eq (Option _) _ _); simp only [List.getElem?_cons_zero, List.getElem?_cons_succ]; rfl) | with_reducible rfl)); conv => whnf))); exact Done.mk trivial))); conv => whnf)
        refine Hand.mk [] ?_
        try (conv => whnf)
        refine CallW.n (s_takeN (n := 0) (.inl rfl) hd (by omega) (by simp)) ?_
        rintro _ _ ⟨rfl, rfl⟩
        have hlt : ((last.take k) : List UInt8).length ≤ 2 ^ 31 := (by simp; omega)
        have hq : bs (last.take k) ++ bs [] = bs (last.take k) := by rw [bs_app, List.append_nil]
        try (conv => whnf)
        repeat (first
         | (refine Need.mk ?_ ?_; (focus (first | (simp; omega) | ((conv => whnf); (repeat (first | (refine Need.mk (by first | rfl | omega | (simp; done)) ?_; conv => whnf) | (refine Pick.mk ?_ ?_ ?_; rotate_left; (focus (first | with_reducible exact xor_u8 _ _ | (with_reducible refine xor_i64 ?_ ?_; all_goals omega) | (with_reducible refine xor_u32 ?_ ?_; all_goals omega) | assumption | with_reducible exact set_byN _ _ _ _ | with_reducible exact set_byI _ _ _ _ | with_reducible exact set_inN _ _ _ _ | with_reducible exact set_inI _ _ _ _ | with_reducible exact set_stN _ _ _ _ | with_reducible exact set_tsN _ _ _ _ | with_reducible exact set_tsI _ _ _ _ | with_reducible exact set_boN _ _ _ _ | with_reducible exact set_boI _ _ _ _ | (with_reducible refine get_mapN _ _ _ ?_; first | omega | (simp; omega)) | (with_reducible refine get_mapI _ _ _ ?_ ?_ <;> first | omega | (simp; omega)) | exact bs_beq _ _ | exact bs_less _ _ | exact bs_leq _ _ | with_reducible exact bs_app _ _ | (refine bs_get _ _ ?_; omega) | (refine bs_int _ _ ?_ ?_ <;> omega) | with_reducible exact sl_map0 _ _ _ | with_reducible exact sl_mapN _ _ _ | with_reducible exact sl_map _ _ _ _ | exact bs_extract0 _ _ | exact bs_extractN _ _ | exact bs_extract _ _ _ | (refine bnd_id ?_; omega) | (refine bnd_sub ?_ ?_ <;> omega) | (refine bnd_add ?_; omega) | (refine bnd_subN ?_ ?_ <;> omega) | (refine bnd_int ?_ ?_ <;> omega) | ((show @Eq Nat (_ + Int.toNat _ * _) _); simp only [Int.toNat_natCast, Nat.zero_add, Nat.mul_one]; rfl) | ((show @Eq (List _) (List.set [_] _ _) _); simp only [List.set_cons_zero]; rfl) | exact List.length_map _ | exact size_bs _ | (simp only [List.length_map, List.length_append, List.length_cons, List.length_nil, List.length_replicate, Nat.zero_add]; rfl) | with_reducible exact List.nil_append _ | with_reducible exact map_app _ _ _ | exact map_snoc byD _ _ | exact map_snoc inD _ _ | exact map_snoc stD _ _ | exact map_snoc tsD _ _ | (simp only [chunks]; rfl) | (refine wid ?_ ?_ <;> omega) | exact wby _ | with_reducible exact wby32 _ | with_reducible exact wu32 _ | exact wby64 _ | exact shr8 _ | exact shr16 _ | exact shr24 _ | exact shr32 _ | (refine tmodn ?_; omega) | (refine wdiv ?_ ?_ ?_ <;> omega) | exact wbyte _ | exact natlit _ | exact rep_by _ | exact rep_in _ | exact rep_bo _ | exact rep_st _ | (refine pick_nat _ _ _ ?_; omega) | (refine pick_int _ _ _ ?_ ?_ <;> omega) | (refine SlOf.full ?_; first | (simp; done) | (simp; omega)) | (with_reducible refine SlOf.pre _ _ ?_; first | omega | (simp; omega)) | (refine SlF.self _ _ ?_ ?_; (first | rfl | omega | (simp; done) | (simp; omega)); (exact fun _ => rfl)) | (refine SlF.pre _ _ ?_ ?_; (first | omega | (simp; omega)); (exact fun _ => rfl)) | (refine SlF.same ?_ ?_; (first | rfl | omega | (simp; done) | (simp; omega)); (first | exact fz_self _ _ (fun _ => rfl) | exact fz_pl rfl | (refine Fz.append ?_ ?_ <;> first | exact fz_self _ _ (fun _ => rfl) | exact fz_pl rfl) | (refine Fz.append (Fz.append ?_ ?_) ?_ <;> first | exact fz_self _ _ (fun _ => rfl) | exact fz_pl rfl))) | (simp only [Int.toNat_natCast, Nat.zero_add, Nat.mul_one]; rfl) | ((show @Eq (Option CV) _ _); rfl) | ((fail_if_success (show @Eq (Option _) _ _)); rfl) | ((show @Eq (Option _) _ _); simp only [List.getElem?_cons_zero, List.getElem?_cons_succ]; done) | ((show @Eq (Option _) _ _); simp only [List.getElem?_cons_zero, List.getElem?_cons_succ]; rfl) | with_reducible rfl)); conv => whnf))); exact Done.mk trivial))); conv => whnf)
         | (refine Pick.mk ?_ ?_ ?_; rotate_left; (focus (assumption)); conv => whnf)
         | (refine SeqJ.thru ?_; conv => whnf))
        refine Hand.mk [] ?_
        try (conv => whnf)
        refine CallW.d (s_l01Alike last (last.take k) (by omega) (by omega)) ?_
        try (conv => whnf)
        try (conv => whnf)
        repeat' (first
         | (refine Need.mk ?_ ?_; (focus (first | omega | rfl)); conv => whnf)
         | (refine Pick.mk ?_ ?_ ?_; rotate_left; (focus (first | exact size_bs _ | (simp only [List.length_map, List.length_append, List.length_cons, List.length_nil, List.length_replicate, Nat.zero_add]; rfl) | exact map_snoc tsD _ _ | (simp only [chunks]; rfl) | (refine wid ?_ ?_ <;> omega) | (refine SlOf.full ?_; first | (simp; done) | (simp; omega)))); conv => whnf)
         | (refine SeqJ.thru ?_; conv => whnf)
         | (refine br_dec (fun _ => ?_) (fun _ => ?_) <;> first | (exfalso; omega) | contradiction | conv => whnf)
         | (refine br_not ?_; conv => whnf)
         | (refine br_bne (fun _ => ?_) (fun _ => ?_) <;> first | (exfalso; omega) | contradiction | conv => whnf)
         | (refine br_beq (fun _ => ?_) (fun _ => ?_) <;> first | (exfalso; omega) | contradiction | conv => whnf))
        all_goals
         refine Pick.mk (j, d, (last.take k), all + ((last.take k) : List UInt8).length, out ++ [(last.take k)], true) ⟨⟨by dsimp only; omega, hd, by dsimp only; omega, by dsimp only; omega, by simp; omega, by rw [if_pos rfl, h6, hT2]; rfl⟩, by dsimp only; omega⟩ (LeX.of ?_)
         try (conv => whnf)
         repeat (refine Need.mk ?_ ?_; (focus (first | omega | (simp only [List.length_map, List.length_append, List.length_cons, List.length_nil, List.length_replicate]; omega) | (simp; done))); conv => whnf)
         trivial
       | some r =>
        obtain ⟨m, d⟩ := r
        obtain ⟨m1, m2, m3, m4, m5⟩ := get_inv hm
        simp only [MaxN] at m4
        have hT2 := tsN_step (n := j) (last := last) (all := all) hk hm
        refine Hand.mk [] ?_
        try (conv => whnf)
        refine CallW.n (s_num hm (by omega)) ?_
        rintro _ _ ⟨rfl, rfl⟩
        try (conv => whnf)
        repeat (refine Need.mk ?_ ?_; (focus (((conv => whnf); (repeat (first | (refine Need.mk (by first | rfl | omega | (simp; done)) ?_; conv => whnf) | (refine Pick.mk ?_ ?_ ?_; rotate_left; (focus (first | with_reducible exact xor_u8 _ _ | (with_reducible refine xor_i64 ?_ ?_; all_goals omega) | (with_reducible refine xor_u32 ?_ ?_; all_goals omega) | assumption | with_reducible exact set_byN _ _ _ _ | with_reducible exact set_byI _ _ _ _ | with_reducible exact set_inN _ _ _ _ | with_reducible exact set_inI _ _ _ _ | with_reducible exact set_stN _ _ _ _ | with_reducible exact set_tsN _ _ _ _ | with_reducible exact set_tsI _ _ _ _ | with_reducible exact set_boN _ _ _ _ | with_reducible exact set_boI _ _ _ _ | (with_reducible refine get_mapN _ _ _ ?_; first | omega | (simp; omega)) | (with_reducible refine get_mapI _ _ _ ?_ ?_ <;> first | omega | (simp; omega)) | exact bs_beq _ _ | exact bs_less _ _ | exact bs_leq _ _ | with_reducible exact bs_app _ _ | (refine bs_get _ _ ?_; omega) | (refine bs_int _ _ ?_ ?_ <;> omega) | with_reducible exact sl_map0 _ _ _ | with_reducible exact sl_mapN _ _ _ | with_reducible exact sl_map _ _ _ _ | exact bs_extract0 _ _ | exact bs_extractN _ _ | exact bs_extract _ _ _ | (refine bnd_id ?_; omega) | (refine bnd_sub ?_ ?_ <;> omega) | (refine bnd_add ?_; omega) | (refine bnd_subN ?_ ?_ <;> omega) | (refine bnd_int ?_ ?_ <;> omega) | ((show @Eq Nat (_ + Int.toNat _ * _) _); simp only [Int.toNat_natCast, Nat.zero_add, Nat.mul_one]; rfl) | ((show @Eq (List _) (List.set [_] _ _) _); simp only [List.set_cons_zero]; rfl) | exact List.length_map _ | exact size_bs _ | (simp only [List.length_map, List.length_append, List.length_cons, List.length_nil, List.length_replicate, Nat.zero_add]; rfl) | with_reducible exact List.nil_append _ | with_reducible exact map_app _ _ _ | exact map_snoc byD _ _ | exact map_snoc inD _ _ | exact map_snoc stD _ _ | exact map_snoc tsD _ _ | (simp only [chunks]; rfl) | (refine wid ?_ ?_ <;> omega) | exact wby _ | with_reducible exact wby32 _ | with_reducible exact wu32 _ | exact wby64 _ | exact shr8 _ | exact shr16 _ | exact shr24 _ | exact shr32 _ | (refine tmodn ?_; omega) | (refine wdiv ?_ ?_ ?_ <;> omega) | exact wbyte _ | exact natlit _ | exact rep_by _ | exact rep_in _ | exact rep_bo _ | exact rep_st _ | (refine pick_nat _ _ _ ?_; omega) | (refine pick_int _ _ _ ?_ ?_ <;> omega) | (refine SlOf.full ?_; first | (simp; done) | (simp; omega)) | (with_reducible refine SlOf.pre _ _ ?_; first | omega | (simp; omega)) | (refine SlF.self _ _ ?_ ?_; (first | rfl | omega | (simp; done) | (simp; omega)); (exact fun _ => rfl)) | (refine SlF.pre _ _ ?_ ?_; (first | omega | (simp; omega)); (exact fun _ => rfl)) | (refine SlF.same ?_ ?_; (first | rfl | omega | (simp; done) | (simp; omega)); (first | exact fz_self _ _ (fun _ => rfl) | exact fz_pl rfl | (refine Fz.append ?_ ?_ <;> first | exact fz_self _ _ (fun _ => rfl) | exact fz_pl rfl) | (refine Fz.append (Fz.append ?_ ?_) ?_ <;> first | exact fz_self _ _ (fun _ => rfl) | exact fz_pl rfl))) | (simp only [Int.toNat_natCast, Nat.zero_add, Nat.mul_one]; rfl) | ((show @Eq (Option CV) _ _); rfl) | ((fail_if_success (show @Eq (Option _) _ _)); rfl) | ((show @Eq (Option _) _ _); simp only [List.getElem?_cons_zero, List.getElem?_cons_succ]; done) | ((show @Eq (Option _) _ _); simp only [List.getElem?_cons_zero, List.getElem?_cons_succ]; rfl) | with_reducible rfl)); conv => whnf))); exact Done.mk trivial))); conv => whnf)
        rcases Nat.lt_or_ge (l.length - d) m with hlm | hlm
        ·have hT2 : tsN l (j + 1) b last all = none := by rw [hT2, if_neg (by omega)]
         refine Hand.mk [] ?_
         try (conv => whnf)
         refine CallW.n (s_takeN (.inr hlm) m3 (by omega) (by simp only [MaxN]; omega)) ?_
         rintro _ _ ⟨rfl, rfl⟩
         have hlt : ((last.take k) : List UInt8).length ≤ 2 ^ 31 := (by simp; omega)
         have hq : bs (last.take k) ++ bs [] = bs (last.take k) := by rw [bs_app, List.append_nil]
         try (conv => whnf)
         repeat (first
          | (refine Need.mk ?_ ?_; (focus (first | (simp; omega) | ((conv => whnf); (repeat (first | (refine Need.mk (by first | rfl | omega | (simp; done)) ?_; conv => whnf) | (refine Pick.mk ?_ ?_ ?_; rotate_left; (focus (first | with_reducible exact xor_u8 _ _ | (with_reducible refine xor_i64 ?_ ?_; all_goals omega) | (with_reducible refine xor_u32 ?_ ?_; all_goals omega) | assumption | with_reducible exact set_byN _ _ _ _ | with_reducible exact set_byI _ _ _ _ | with_reducible exact set_inN _ _ _ _ | with_reducible exact set_inI _ _ _ _ | with_reducible exact set_stN _ _ _ _ | with_reducible exact set_tsN _ _ _ _ | with_reducible exact set_tsI _ _ _ _ | with_reducible exact set_boN _ _ _ _ | with_reducible exact set_boI _ _ _ _ | (with_reducible refine get_mapN _ _ _ ?_; first | omega | (simp; omega)) | (with_reducible refine get_mapI _ _ _ ?_ ?_ <;> first | omega | (simp; omega)) | exact bs_beq _ _ | exact bs_less _ _ | exact bs_leq _ _ | with_reducible exact bs_app _ _ | (refine bs_get _ _ ?_; omega) | (refine bs_int _ _ ?_ ?_ <;> omega) | with_reducible exact sl_map0 _ _ _ | with_reducible exact sl_mapN _ _ _ | with_reducible exact sl_map _ _ _ _ | exact bs_extract0 _ _ | exact bs_extractN _ _ | exact bs_extract _ _ _ | (refine bnd_id ?_; omega) | (refine bnd_sub ?_ ?_ <;> omega) | (refine bnd_add ?_; omega) | (refine bnd_subN ?_ ?_ <;> omega) | (refine bnd_int ?_ ?_ <;> omega) | ((show @Eq Nat (_ + Int.toNat _ * _) _); simp only [Int.toNat_natCast, Nat.zero_add, Nat.mul_one]; rfl) | ((show @Eq (List _) (List.set [_] _ _) _); simp only [List.set_cons_zero]; rfl) | exact List.length_map _ | exact size_bs _ | (simp only [List.length_map, List.length_append, List.length_cons, List.length_nil, List.length_replicate, Nat.zero_add]; rfl) | with_reducible exact List.nil_append _ | with_reducible exact map_app _ _ _ | exact map_snoc byD _ _ | exact map_snoc inD _ _ | exact map_snoc stD _ _ | exact map_snoc tsD _ _ | (simp only [chunks]; rfl) | (refine wid ?_ ?_ <;> omega) | exact wby _ | with_reducible exact wby32 _ | with_reducible exact wu32 _ | exact wby64 _ | exact shr8 _ | exact shr16 _ | exact shr24 _ | exact shr32 _ | (refine tmodn ?_; omega) | (refine wdiv ?_ ?_ ?_ <;> omega) | exact wbyte _ | exact natlit _ | exact rep_by _ | exact rep_in _ | exact rep_bo _ | exact rep_st _ | (refine pick_nat _ _ _ ?_; omega) | (refine pick_int _ _ _ ?_ ?_ <;> omega) | (refine SlOf.full ?_; first | (simp; done) | (simp; omega)) | (with_reducible refine SlOf.pre _ _ ?_; first | omega | (simp; omega)) | (refine SlF.self _ _ ?_ ?_; (first | rfl | omega | (simp; done) | (simp; omega)); (exact fun _ => rfl)) | (refine SlF.pre _ _ ?_ ?_; (first | omega | (simp; omega)); (exact fun _ => rfl)) | (refine SlF.same ?_ ?_; (first | rfl | omega | (simp; done) | (simp; omega)); (first | exact fz_self _ _ (fun _ => rfl) | exact fz_pl rfl | (refine Fz.append ?_ ?_ <;> first | exact fz_self _ _ (fun _ => rfl) | exact fz_pl rfl) | (refine Fz.append (Fz.append ?_ ?_) ?_ <;> first | exact fz_self _ _ (fun _ => rfl) | exact fz_pl rfl))) | (simp only [Int.toNat_natCast, Nat.zero_add, Nat.mul_one]; rfl) | ((show @Eq (Option CV) _ _); rfl) | ((fail_if_success (show @Eq (Option _) _ _)); rfl) | ((show @Eq (Option _) _ _); simp only [List.getElem?_cons_zero, List.getElem?_cons_succ]; done) | ((show @Eq (Option _) _ _); simp only [List.getElem?_cons_zero, List.getElem?_cons_succ]; rfl) | with_reducible rfl)); conv => whnf))); exact Done.mk trivial))); conv => whnf)
          | (refine Pick.mk ?_ ?_ ?_; rotate_left; (focus (assumption)); conv => whnf)
          | (refine SeqJ.thru ?_; conv => whnf))
         refine Hand.mk [] ?_
         try (conv => whnf)
         refine CallW.d (s_l01Alike last (last.take k) (by omega) (by omega)) ?_
         try (conv => whnf)
         try (conv => whnf)
         repeat' (first
          | (refine Need.mk ?_ ?_; (focus (first | omega | rfl)); conv => whnf)
          | (refine Pick.mk ?_ ?_ ?_; rotate_left; (focus (first | exact size_bs _ | (simp only [List.length_map, List.length_append, List.length_cons, List.length_nil, List.length_replicate, Nat.zero_add]; rfl) | exact map_snoc tsD _ _ | (simp only [chunks]; rfl) | (refine wid ?_ ?_ <;> omega) | (refine SlOf.full ?_; first | (simp; done) | (simp; omega)))); conv => whnf)
          | (refine SeqJ.thru ?_; conv => whnf)
          | (refine br_dec (fun _ => ?_) (fun _ => ?_) <;> first | (exfalso; omega) | contradiction | conv => whnf)
          | (refine br_not ?_; conv => whnf)
          | (refine br_bne (fun _ => ?_) (fun _ => ?_) <;> first | (exfalso; omega) | contradiction | conv => whnf)
          | (refine br_beq (fun _ => ?_) (fun _ => ?_) <;> first | (exfalso; omega) | contradiction | conv => whnf))
         all_goals
          refine Pick.mk (j, d, (last.take k), all + ((last.take k) : List UInt8).length, out ++ [(last.take k)], true) ⟨⟨by dsimp only; omega, m3, by dsimp only; omega, by dsimp only; omega, by simp; omega, by rw [if_pos rfl, h6, hT2]; rfl⟩, by dsimp only; omega⟩ (LeX.of ?_)
          try (conv => whnf)
          repeat (refine Need.mk ?_ ?_; (focus (first | omega | (simp only [List.length_map, List.length_append, List.length_cons, List.length_nil, List.length_replicate]; omega) | (simp; done))); conv => whnf)
          trivial
        ·refine Hand.mk [] ?_
         try (conv => whnf)
         refine CallW.n (s_take hlm m3 (by omega)) ?_
         rintro _ _ ⟨rfl, rfl⟩
         have hlen : (last.take k ++ (l.drop d).take m).length = k + m := by simp; omega
         have hdm : d + m ≤ l.length := by omega
         try (conv => whnf)
         repeat (first
          | (refine Need.mk ?_ ?_; (focus (first | (simp; omega) | ((conv => whnf); (repeat (first | (refine Need.mk (by first | rfl | omega | (simp; done)) ?_; conv => whnf) | (refine Pick.mk ?_ ?_ ?_; rotate_left; (focus (first | with_reducible exact xor_u8 _ _ | (with_reducible refine xor_i64 ?_ ?_; all_goals omega) | (with_reducible refine xor_u32 ?_ ?_; all_goals omega) | assumption | with_reducible exact set_byN _ _ _ _ | with_reducible exact set_byI _ _ _ _ | with_reducible exact set_inN _ _ _ _ | with_reducible exact set_inI _ _ _ _ | with_reducible exact set_stN _ _ _ _ | with_reducible exact set_tsN _ _ _ _ | with_reducible exact set_tsI _ _ _ _ | with_reducible exact set_boN _ _ _ _ | with_reducible exact set_boI _ _ _ _ | (with_reducible refine get_mapN _ _ _ ?_; first | omega | (simp; omega)) | (with_reducible refine get_mapI _ _ _ ?_ ?_ <;> first | omega | (simp; omega)) | exact bs_beq _ _ | exact bs_less _ _ | exact bs_leq _ _ | with_reducible exact bs_app _ _ | (refine bs_get _ _ ?_; omega) | (refine bs_int _ _ ?_ ?_ <;> omega) | with_reducible exact sl_map0 _ _ _ | with_reducible exact sl_mapN _ _ _ | with_reducible exact sl_map _ _ _ _ | exact bs_extract0 _ _ | exact bs_extractN _ _ | exact bs_extract _ _ _ | (refine bnd_id ?_; omega) | (refine bnd_sub ?_ ?_ <;> omega) | (refine bnd_add ?_; omega) | (refine bnd_subN ?_ ?_ <;> omega) | (refine bnd_int ?_ ?_ <;> omega) | ((show @Eq Nat (_ + Int.toNat _ * _) _); simp only [Int.toNat_natCast, Nat.zero_add, Nat.mul_one]; rfl) | ((show @Eq (List _) (List.set [_] _ _) _); simp only [List.set_cons_zero]; rfl) | exact List.length_map _ | exact size_bs _ | (simp only [List.length_map, List.length_append, List.length_cons, List.length_nil, List.length_replicate, Nat.zero_add]; rfl) | with_reducible exact List.nil_append _ | with_reducible exact map_app _ _ _ | exact map_snoc byD _ _ | exact map_snoc inD _ _ | exact map_snoc stD _ _ | exact map_snoc tsD _ _ | (simp only [chunks]; rfl) | (refine wid ?_ ?_ <;> omega) | exact wby _ | with_reducible exact wby32 _ | with_reducible exact wu32 _ | exact wby64 _ | exact shr8 _ | exact shr16 _ | exact shr24 _ | exact shr32 _ | (refine tmodn ?_; omega) | (refine wdiv ?_ ?_ ?_ <;> omega) | exact wbyte _ | exact natlit _ | exact rep_by _ | exact rep_in _ | exact rep_bo _ | exact rep_st _ | (refine pick_nat _ _ _ ?_; omega) | (refine pick_int _ _ _ ?_ ?_ <;> omega) | (refine SlOf.full ?_; first | (simp; done) | (simp; omega)) | (with_reducible refine SlOf.pre _ _ ?_; first | omega | (simp; omega)) | (refine SlF.self _ _ ?_ ?_; (first | rfl | omega | (simp; done) | (simp; omega)); (exact fun _ => rfl)) | (refine SlF.pre _ _ ?_ ?_; (first | omega | (simp; omega)); (exact fun _ => rfl)) | (refine SlF.same ?_ ?_; (first | rfl | omega | (simp; done) | (simp; omega)); (first | exact fz_self _ _ (fun _ => rfl) | exact fz_pl rfl | (refine Fz.append ?_ ?_ <;> first | exact fz_self _ _ (fun _ => rfl) | exact fz_pl rfl) | (refine Fz.append (Fz.append ?_ ?_) ?_ <;> first | exact fz_self _ _ (fun _ => rfl) | exact fz_pl rfl))) | (simp only [Int.toNat_natCast, Nat.zero_add, Nat.mul_one]; rfl) | ((show @Eq (Option CV) _ _); rfl) | ((fail_if_success (show @Eq (Option _) _ _)); rfl) | ((show @Eq (Option _) _ _); simp only [List.getElem?_cons_zero, List.getElem?_cons_succ]; done) | ((show @Eq (Option _) _ _); simp only [List.getElem?_cons_zero, List.getElem?_cons_succ]; rfl) | with_reducible rfl)); conv => whnf))); exact Done.mk trivial))); conv => whnf)
          | (refine Pick.mk ?_ ?_ ?_; rotate_left; (focus (with_reducible exact bs_app _ _)); conv => whnf)
          | (refine SeqJ.thru ?_; conv => whnf))
         refine Hand.mk [] ?_
         try (conv => whnf)
         refine CallW.d (s_l01Alike last (last.take k ++ (l.drop d).take m) (by omega) (by omega)) ?_
         try (conv => whnf)
         try (conv => whnf)
         repeat' (first
          | (refine Need.mk ?_ ?_; (focus (first | omega | rfl)); conv => whnf)
          | (refine Pick.mk ?_ ?_ ?_; rotate_left; (focus (first | assumption | (simp only [List.length_map, List.length_append, List.length_cons, List.length_nil, List.length_replicate, Nat.zero_add]; rfl) | exact map_snoc tsD _ _ | (simp only [chunks]; rfl) | (refine wid ?_ ?_ <;> omega) | (refine SlOf.full ?_; first | (simp; done) | (simp; omega)))); conv => whnf)
          | (refine SeqJ.thru ?_; conv => whnf)
          | (refine br_dec (fun _ => ?_) (fun _ => ?_) <;> first | (exfalso; omega) | contradiction | conv => whnf)
          | (refine br_not ?_; conv => whnf)
          | (refine br_bne (fun _ => ?_) (fun _ => ?_) <;> first | (exfalso; omega) | contradiction | conv => whnf)
          | (refine br_beq (fun _ => ?_) (fun _ => ?_) <;> first | (exfalso; omega) | contradiction | conv => whnf))
         ·have hT3 : tsN l (j + 1) b last all = none := by rw [hT2, if_neg (by simp only [MaxB]; omega)]
          refine Pick.mk (j, d + m, (last.take k ++ (l.drop d).take m), all + (k + m), out ++ [(last.take k ++ (l.drop d).take m)], true) ⟨⟨by dsimp only; omega, hdm, by dsimp only; omega, by dsimp only; omega, by simp; omega, by rw [if_pos rfl, h6, hT3]; rfl⟩, by dsimp only; omega⟩ (LeX.of ?_)
          try (conv => whnf)
          repeat (refine Need.mk ?_ ?_; (focus (first | omega | (simp only [List.length_map, List.length_append, List.length_cons, List.length_nil, List.length_replicate]; omega) | (simp; done))); conv => whnf)
          trivial
         ·refine Pick.mk (j, d + m, (last.take k ++ (l.drop d).take m), all + (k + m), out ++ [(last.take k ++ (l.drop d).take m)], false) ⟨⟨by dsimp only; omega, hdm, by dsimp only; omega, by dsimp only; omega, by simp; omega, ?_⟩, by dsimp only; omega⟩ (LeX.of ?_)
          ·rw [if_neg (by simp)]
           refine ⟨by simp only [MaxB]; omega, ?_⟩
           dsimp only
           rw [h6, hT2, if_pos ⟨by omega, hlm, by simp only [MaxB]; omega, by omega⟩, Option.map_map]
           congr 1
           funext r
           simp
          ·try (conv => whnf)
           repeat (refine Need.mk ?_ ?_; (focus (first | omega | (simp only [List.length_map, List.length_append, List.length_cons, List.length_nil, List.length_replicate]; omega) | (simp; done))); conv => whnf)
           trivial
         ·have hT3 : tsN l (j + 1) b last all = none := by rw [hT2, if_neg (by simp only [MaxB]; omega)]
          refine Pick.mk (j, d + m, (last.take k ++ (l.drop d).take m), all + (k + m), out ++ [(last.take k ++ (l.drop d).take m)], true) ⟨⟨by dsimp only; omega, hdm, by dsimp only; omega, by dsimp only; omega, by simp; omega, by rw [if_pos rfl, h6, hT3]; rfl⟩, by dsimp only; omega⟩ (LeX.of ?_)
          try (conv => whnf)
          repeat (refine Need.mk ?_ ?_; (focus (first | omega | (simp only [List.length_map, List.length_append, List.length_cons, List.length_nil, List.length_replicate]; omega) | (simp; done))); conv => whnf)
          trivial
         ·have hT3 : tsN l (j + 1) b last all = none := by rw [hT2, if_neg (by simp only [MaxB]; omega)]
          refine Pick.mk (j, d + m, (last.take k ++ (l.drop d).take m), all + (k + m), out ++ [(last.take k ++ (l.drop d).take m)], true) ⟨⟨by dsimp only; omega, hdm, by dsimp only; omega, by dsimp only; omega, by simp; omega, by rw [if_pos rfl, h6, hT3]; rfl⟩, by dsimp only; omega⟩ (LeX.of ?_)
          try (conv => whnf)
          repeat (refine Need.mk ?_ ?_; (focus (first | omega | (simp only [List.length_map, List.length_append, List.length_cons, List.length_nil, List.length_replicate]; omega) | (simp; done))); conv => whnf)
          trivial
 ·have hT : getT l a = none := by
   simp only [getT]
   split
   ·rfl
   ·rename_i n b h
    rw [if_neg fun hn => hg ⟨n, b, h, hn⟩]
  refine Hand.mk [] ?_
  try (conv => whnf)
  refine CallW.n (s_countN (fun x y h => by rcases Nat.lt_or_ge 4096 x with g | g; exact g; exact absurd ⟨x, y, h, g⟩ hg) (by omega) ha) ?_
  rintro _ _ ⟨b, rfl, rfl, hb⟩
  try (conv => whnf)
  refine LoopE.mk (fun (_ : Nat) => mk [(0, .one (.ptr 0 0)), (3, .one (.os (.v 8192) 1 0 0)), (6, vI .i64 0)] [(0, rdR l b true), (8192, .own 1 [])]) (fun _ => True) (fun x => x) 0 trivial (LeX.of ?_) ?_
  ·try (conv => whnf)
   repeat (refine Need.mk ?_ ?_; (focus (first | omega | (simp; done))); conv => whnf)
   trivial
  ·rintro _ -
   try (conv => whnf)
   repeat' (first
    | (refine SeqJ.thru ?_; conv => whnf)
    | (refine br_dec (fun _ => ?_) (fun _ => ?_) <;> first | (exfalso; omega) | contradiction | conv => whnf)
    | (refine br_not ?_; conv => whnf)
    | (refine br_bne (fun _ => ?_) (fun _ => ?_) <;> first | (exfalso; omega) | contradiction | conv => whnf)
    | (refine br_beq (fun _ => ?_) (fun _ => ?_) <;> first | (exfalso; omega) | contradiction | conv => whnf))
   refine Out.mk false [0, 1, 2, 3, 4] [] ?_
   try (conv => whnf)
   exact ⟨b, true, [], rfl, rfl, hb, by rw [hT]⟩
end Go.Proofs.Ytpdjehnlejjfmaa.D
/- Lists of texts read from whole bytes, by both. -/
namespace Go.Proofs.Ytpdjehnlejjfmaa.D
open Go.RowKit
set_option maxRecDepth 100000
set_option maxHeartbeats 4000000
set_option linter.unusedVariables false
set_option linter.unusedSimpArgs false

end Go.Proofs.Ytpdjehnlejjfmaa.D
/- What the laws do with bytes: copied, compared, marked. -/
namespace Go.Proofs.Ytpdjehnlejjfmaa.D
open Go.RowKit
set_option maxRecDepth 100000
set_option linter.unusedVariables false
set_option linter.unusedSimpArgs false

theorem l_toByteS (l : List UInt8) (hl : l.length ≤ 2 ^ 39) : CallD Try.prog id_laws_toByteS [vY l] [] (.one (.os (.v 0) 1 0 l.length)) [.own 1 (l.map byD)] := by
 refine F_laws_toByteS ?_
 try (conv => whnf)
 repeat (first
  | (refine Need.mk ?_ ?_; (focus (omega)); conv => whnf)
  | (refine Pick.mk ?_ ?_ ?_; rotate_left; (focus (first | exact List.length_map _ | exact natlit _ | exact rep_by _)); conv => whnf))
 refine LoopE.mk (fun i : Nat => mk [(0, vY l), (3, .one (.os (.v 8224) 1 0 l.length)), (4, vI .i64 i)] [(8224, .own 1 ((over l (List.replicate l.length 0) i).map byD))]) (fun i => i ≤ l.length) (fun i => l.length - i) 0 (by omega) (LeX.of ?_) ?_
 ·try (conv => whnf)
  repeat (refine Need.mk ?_ ?_; (focus (first | omega | (simp; done) | rfl)); conv => whnf)
  trivial
 ·intro i hi
  try (conv => whnf)
  repeat' (first
   | (refine Need.mk ?_ ?_; (focus (omega)); conv => whnf)
   | (refine Pick.mk ?_ ?_ ?_; rotate_left; (focus (first | exact List.length_map _ | (refine pick_nat _ _ _ ?_; omega))); conv => whnf)
   | (refine SeqJ.thru ?_; conv => whnf)
   | (refine br_dec (fun _ => ?_) (fun _ => ?_) <;> first | (exfalso; omega) | contradiction | conv => whnf)
   | (refine br_not ?_; conv => whnf)
   | (refine br_bne (fun _ => ?_) (fun _ => ?_) <;> first | (exfalso; omega) | contradiction | conv => whnf)
   | (refine br_beq (fun _ => ?_) (fun _ => ?_) <;> first | (exfalso; omega) | contradiction | conv => whnf))
  ·refine Pick.mk (byD 0) (by rw [addN_eq, List.getElem?_map, show 0 + (i : Int).toNat = i by omega, over_get (by simp) (by simp; omega)]; simp) ?_
   try (conv => whnf)
   repeat (first
    | (refine Need.mk ?_ ?_; (focus ((simp only [List.length_map, List.length_append, List.length_cons, List.length_nil, List.length_replicate]; omega))); conv => whnf)
    | (refine Pick.mk ?_ ?_ ?_; rotate_left; (focus (first | with_reducible exact set_byN _ _ _ _ | (refine wid ?_ ?_ <;> omega))); conv => whnf))
   refine Pick.mk (i + 1) (by constructor <;> first | omega | (simp only []; omega)) (LeX.of ?_)
   try (conv => whnf)
   repeat (refine Need.mk ?_ ?_; (focus (first | omega | (simp; done))); conv => whnf)
   refine Need.mk (by rw [over_set (by simp) (by simp; omega)]) ?_
   try (conv => whnf)
   trivial
  ·refine Out.mk false [0, 1, 2, 3, 4] [] ?_
   try (conv => whnf)
   repeat (refine Need.mk ?_ ?_; (focus ((first | exact flat_by _ | exact flat_in _ | exact flat_st _ | exact flat_ts _ | exact flat_bo _ | exact flat_cl rfl))); conv => whnf)
   rw [over_end (by simp) (by simp; omega)]
   exact ⟨rfl, rfl⟩
theorem take_eq_step {α : Type} {a b : List α} {i : Nat} (ha : i < a.length) (hb : i < b.length) (h : a.take i = b.take i) (h2 : a[i] = b[i]) : a.take (i + 1) = b.take (i + 1) := by
 rw [List.take_succ_eq_append_getElem ha, List.take_succ_eq_append_getElem hb, h, h2]
theorem l_eqByteS (a b : List UInt8) (ha : a.length ≤ 2 ^ 39) (hb : b.length ≤ 2 ^ 39) : CallD Try.prog id_laws_eqByteS [vY a, vY b] [] (vB (decide (a = b))) [] := by
 refine F_laws_eqByteS ?_
 try (conv => whnf)
 repeat' (first
  | (refine Pick.mk ?_ ?_ ?_; rotate_left; (focus (exact List.length_map _)); conv => whnf)
  | (refine SeqJ.thru ?_; conv => whnf)
  | (refine br_dec (fun _ => ?_) (fun _ => ?_) <;> first | (exfalso; omega) | contradiction | conv => whnf)
  | (refine br_not ?_; conv => whnf)
  | (refine br_bne (fun _ => ?_) (fun _ => ?_) <;> first | (exfalso; omega) | contradiction | conv => whnf)
  | (refine br_beq (fun _ => ?_) (fun _ => ?_) <;> first | (exfalso; omega) | contradiction | conv => whnf))
 ·refine LoopE.mk (fun i : Nat => mk [(0, vY a), (1, vY b), (5, vI .i64 i)] []) (fun i => i ≤ a.length ∧ a.take i = b.take i) (fun i => a.length - i) 0 (by simp) (LeX.of ?_) ?_
  ·try (conv => whnf)
   repeat (refine Need.mk ?_ ?_; (focus (first | omega | (simp; done))); conv => whnf)
   trivial
  ·rintro i ⟨hi, he⟩
   try (conv => whnf)
   repeat' (first
    | (refine Pick.mk ?_ ?_ ?_; rotate_left; (focus (first | exact List.length_map _ | (refine wid ?_ ?_ <;> omega) | (refine pick_nat _ _ _ ?_; omega))); conv => whnf)
    | (refine SeqJ.thru ?_; conv => whnf)
    | (refine br_dec (fun _ => ?_) (fun _ => ?_) <;> first | (exfalso; omega) | contradiction | conv => whnf)
    | (refine br_not ?_; conv => whnf)
    | (refine br_bne (fun _ => ?_) (fun _ => ?_) <;> first | (exfalso; omega) | contradiction | conv => whnf)
    | (refine br_beq (fun _ => ?_) (fun _ => ?_) <;> first | (exfalso; omega) | contradiction | conv => whnf))
   ·rename_i g1 g2
    have h1 : i < a.length := by omega
    have h2 : i < b.length := by omega
    have h3 : a[i] = b[i] := UInt8.toNat.inj (by omega)
    refine Pick.mk (i + 1) ⟨⟨by omega, take_eq_step h1 h2 he h3⟩, by omega⟩ (LeX.of ?_)
    try (conv => whnf)
    repeat (refine Need.mk ?_ ?_; (focus (first | omega | (simp; done))); conv => whnf)
    trivial
   ·rename_i g1 g2
    refine Out.mk true [] [] ?_
    try (conv => whnf)
    have : a ≠ b := by rintro rfl; exact g2 rfl
    simp [this]; exact ⟨trivial⟩
   ·rename_i g1
    refine Out.mk true [] [] ?_
    try (conv => whnf)
    have : a = b := by rw [List.take_of_length_le (by omega), List.take_of_length_le (by omega)] at he; exact he
    simp [this]; exact ⟨trivial⟩
 ·refine Out.mk true [] [] ?_
  try (conv => whnf)
  have : a ≠ b := by rintro rfl; omega
  simp [this]; exact ⟨trivial⟩
def marks (k : Int) (n : Nat) : List UInt8 := (List.range n).map fun (i : Nat) => u8 (k + i)
@[simp] theorem marks_length (k : Int) (n : Nat) : (marks k n).length = n := by simp [marks]
theorem marks_get (k : Int) {n i : Nat} (h : i < n) : (marks k n)[i]'(by simpa using h) = u8 (k + i) := by simp [marks]
theorem l_markByteS (a : List UInt8) (k : Int) (ha : a.length ≤ 2 ^ 39) (h0 : 0 ≤ k) (h1 : k ≤ 2 ^ 60) :
  CallMD Try.prog id_laws_markByteS [.one (.os (.v 0) 1 0 a.length), vI .i64 k] [.own 1 (a.map byD)] [] (vI .i64 (k + a.length)) [.own 1 ((marks k a.length).map byD)] := by
 refine F_laws_markByteS ?_
 try (conv => whnf)
 refine LoopE.mk (fun i : Nat => mk [(0, .one (.os (.v 0) 1 0 a.length)), (1, vI .i64 (k + i)), (5, vI .i64 i)] [(0, .own 1 ((over (marks k a.length) a i).map byD))]) (fun i => i ≤ a.length) (fun i => a.length - i) 0 (by omega) (LeX.of ?_) ?_
 ·try (conv => whnf)
  repeat (refine Need.mk ?_ ?_; (focus (first | omega | rfl)); conv => whnf)
  trivial
 ·intro i hi
  try (conv => whnf)
  repeat' (first
   | (refine Need.mk ?_ ?_; (focus (omega)); conv => whnf)
   | (refine Pick.mk ?_ ?_ ?_; rotate_left; (focus (exact wbyte _)); conv => whnf)
   | (refine SeqJ.thru ?_; conv => whnf)
   | (refine br_dec (fun _ => ?_) (fun _ => ?_) <;> first | (exfalso; omega) | contradiction | conv => whnf)
   | (refine br_not ?_; conv => whnf)
   | (refine br_bne (fun _ => ?_) (fun _ => ?_) <;> first | (exfalso; omega) | contradiction | conv => whnf)
   | (refine br_beq (fun _ => ?_) (fun _ => ?_) <;> first | (exfalso; omega) | contradiction | conv => whnf))
  ·skip
   refine Pick.mk (byD (a[i]'(by omega))) (by rw [addN_eq, List.getElem?_map, show 0 + (i : Int).toNat = i by omega, over_get (by simp) (by omega)]; simp) ?_
   try (conv => whnf)
   repeat (first
    | (refine Need.mk ?_ ?_; (focus ((simp only [List.length_map, List.length_append, List.length_cons, List.length_nil, List.length_replicate]; omega))); conv => whnf)
    | (refine Pick.mk ?_ ?_ ?_; rotate_left; (focus (first | with_reducible exact set_byN _ _ _ _ | (refine wid ?_ ?_ <;> omega))); conv => whnf))
   refine Pick.mk (i + 1) (by constructor <;> first | omega | (simp only []; omega)) (LeX.of ?_)
   try (conv => whnf)
   repeat (refine Need.mk ?_ ?_; (focus (omega)); conv => whnf)
   refine Need.mk (by rw [← over_set (by simp) (by omega), marks_get _ (by omega)]) ?_
   try (conv => whnf)
   trivial
  ·refine Out.mk false [0, 1, 2, 3, 4] [] ?_
   try (conv => whnf)
   repeat (refine Need.mk ?_ ?_; (focus ((first | exact flat_by _ | exact flat_in _ | exact flat_st _ | exact flat_ts _ | exact flat_bo _ | exact flat_cl rfl))); conv => whnf)
   rw [over_end (by simp) (by omega)]
   exact ⟨by congr; omega, rfl⟩
end Go.Proofs.Ytpdjehnlejjfmaa.D
