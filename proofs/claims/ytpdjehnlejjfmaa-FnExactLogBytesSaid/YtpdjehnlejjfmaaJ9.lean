/- Logs in plain: when one is in order, and what the program's book of it holds. -/
import Derived.Test.YtpdjehnlejjfmaaJ8
namespace Go.Proofs.Ytpdjehnlejjfmaa.D
open Go.RowKit
set_option maxRecDepth 100000
set_option linter.unusedVariables false
set_option linter.unusedSimpArgs false

theorem snoc_ind {α : Type} {p : List α → Prop} (h0 : p []) (hs : ∀ l x, p l → p (l ++ [x])) : ∀ l, p l := by
  have : ∀ n (l : List α), l.length = n → p l := by
    intro n
    induction n with
    | zero => intro l hl; rw [List.eq_nil_of_length_eq_zero hl]; exact h0
    | succ n ih =>
      intro l hl
      have hne : l ≠ [] := by rintro rfl; simp at hl
      rw [← List.dropLast_concat_getLast hne]
      exact hs _ _ (ih _ (by simp [hl]))
  exact fun l => this _ l rfl
/-- The operations of an actor. -/
def own (l : List OpV) (a : Int) : List OpV := l.filter fun o => decide (o.actor = a)
theorem own_snoc (l : List OpV) (o : OpV) (a : Int) : own (l ++ [o]) a = own l a ++ if o.actor = a then [o] else [] := by
  simp only [own, List.filter_append, List.filter_cons, List.filter_nil, decide_eq_true_eq]
theorem own_take {l : List OpV} {i : Nat} (h : i < l.length) (a : Int) : own (l.take (i + 1)) a = own (l.take i) a ++ if l[i].actor = a then [l[i]] else [] := by
  rw [List.take_succ_eq_append_getElem h, own_snoc]
theorem own_le (l : List OpV) (a : Int) : (own l a).length ≤ l.length := List.length_filter_le _ _
/-- What an operation's object is, as the program has it, and as the reference. -/
def thI (k : Int) : Int := if k = 3 then 2 else k
def thS (k : Int) : Int := if k = 1 then 1 else if k = 2 ∨ k = 3 then 2 else 3
theorem OpOk.kinds {o : OpV} (h : OpOk o) : 1 ≤ o.kind ∧ o.kind ≤ 4 := by
  rcases h.kind with ⟨k, _⟩ | ⟨k, _⟩ | ⟨k, _⟩ | ⟨k, _⟩ <;> omega
theorem thI_ne {k : Int} (h : 1 ≤ k ∧ k ≤ 4) : thI k ≠ 0 := by unfold thI; split <;> omega
theorem thS_ne {k : Int} (h : 1 ≤ k ∧ k ≤ 4) : thS k ≠ 0 := by unfold thS; split; omega; split <;> omega
theorem th_iff {a b : Int} (ha : 1 ≤ a ∧ a ≤ 4) (hb : 1 ≤ b ∧ b ≤ 4) : thI a = thI b ↔ thS a = thS b := by
  unfold thI thS
  split <;> split <;> split <;> (try split) <;> (try split) <;> (try split) <;> omega
def SameTh (th : Int → Int) (l : List OpV) : Prop := ∀ a ∈ l, ∀ b ∈ l, a.obj = b.obj → th a.kind = th b.kind
theorem SameTh.iff {l : List OpV} (hl : ∀ o ∈ l, OpOk o) : SameTh thI l ↔ SameTh thS l :=
  ⟨fun h a ha b hb e => (th_iff (hl a ha).kinds (hl b hb).kinds).1 (h a ha b hb e), fun h a ha b hb e => (th_iff (hl a ha).kinds (hl b hb).kinds).2 (h a ha b hb e)⟩
theorem SameTh.snoc {th : Int → Int} {l : List OpV} {o : OpV} (h : SameTh th l) (ho : ∀ a ∈ l, a.obj = o.obj → th a.kind = th o.kind) : SameTh th (l ++ [o]) := by
  intro a ha b hb e
  simp only [List.mem_append, List.mem_singleton] at ha hb
  rcases ha with ha | rfl <;> rcases hb with hb | rfl
  · exact h a ha b hb e
  · exact ho a ha e
  · exact (ho b hb e.symm).symm
  · rfl
theorem SameTh.of_snoc {th : Int → Int} {l : List OpV} {o : OpV} (h : SameTh th (l ++ [o])) : ∀ a ∈ l, a.obj = o.obj → th a.kind = th o.kind :=
  fun a ha e => h a (by simp [ha]) o (by simp) e
theorem SameTh.sub {th : Int → Int} {l m : List OpV} (h : SameTh th l) (hm : ∀ o ∈ m, o ∈ l) : SameTh th m := fun a ha b hb e => h a (hm a ha) b (hm b hb) e
/-- The objects' things, one behind the other. -/
def kdOf (th : Int → Int) (l : List OpV) : List Int := l.foldl (fun k o => k.set o.obj.toNat (th o.kind)) (List.replicate 101 0)
theorem kdOf_snoc (th : Int → Int) (l : List OpV) (o : OpV) : kdOf th (l ++ [o]) = (kdOf th l).set o.obj.toNat (th o.kind) := by simp [kdOf]
@[simp] theorem kdOf_length (th : Int → Int) (l : List OpV) : (kdOf th l).length = 101 := by
  induction l using snoc_ind with
  | h0 => simp [kdOf]
  | hs l o ih => rw [kdOf_snoc]; simpa using ih
theorem kdOf_val (th : Int → Int) {j : Nat} (hj : j < 101) : ∀ (l : List OpV), (∀ o ∈ l, OpOk o) → (∀ a ∈ l, a.obj ≠ j) ∧ (kdOf th l).getD j 0 = 0 ∨ ∃ a ∈ l, a.obj = j ∧ (kdOf th l).getD j 0 = th a.kind := by
  intro l
  induction l using snoc_ind with
  | h0 => intro _; left; exact ⟨by simp, by simp [kdOf, List.getD, hj, -List.reduceReplicate]⟩
  | hs l o ih =>
    intro hl
    have ho := (hl o (by simp)).obj
    rw [kdOf_snoc]
    by_cases e : o.obj = j
    · right
      refine ⟨o, by simp, e, ?_⟩
      have : o.obj.toNat = j := by omega
      rw [this]; simp [List.getD, hj]
    · have hne : o.obj.toNat ≠ j := by omega
      have hg : ((kdOf th l).set o.obj.toNat (th o.kind)).getD j 0 = (kdOf th l).getD j 0 := by simp [List.getD, List.getElem?_set, hne]
      rw [hg]
      rcases ih fun o h => hl o (by simp [h]) with ⟨h1, h2⟩ | ⟨a, h1, h2, h3⟩
      · left
        refine ⟨fun a ha => ?_, h2⟩
        simp only [List.mem_append, List.mem_singleton] at ha
        rcases ha with ha | rfl
        · exact h1 a ha
        · exact e
      · exact .inr ⟨a, by simp [h1], h2, h3⟩
/-- Whether an object's thing fits. -/
theorem kd_iff {th : Int → Int} (hth : ∀ k, 1 ≤ k ∧ k ≤ 4 → th k ≠ 0) {l : List OpV} {o : OpV} (hl : ∀ o ∈ l, OpOk o) (hs : SameTh th l) (ho : OpOk o) :
    ((kdOf th l).getD o.obj.toNat 0 = 0 ∨ (kdOf th l).getD o.obj.toNat 0 = th o.kind) ↔ ∀ a ∈ l, a.obj = o.obj → th a.kind = th o.kind := by
  have hob := ho.obj
  have hj : o.obj.toNat < 101 := by omega
  have hc : ((o.obj.toNat : Nat) : Int) = o.obj := by omega
  rcases kdOf_val th hj l hl with ⟨h1, h2⟩ | ⟨a, h1, h2, h3⟩
  · rw [h2]
    refine ⟨fun _ a ha e => absurd (e.trans hc.symm) (h1 a ha), fun _ => .inl rfl⟩
  · rw [h3]
    constructor
    · rintro (h | h) b hb e
      · exact absurd h (hth _ (hl a h1).kinds)
      · rw [← h]; exact hs b hb a h1 (by rw [h2, hc]; exact e)
    · intro h; exact .inr (h a h1 (by omega))
/-- The first operations of a log: each in order, the actors rising, the numbers one by one. -/
def Good1 (l : List OpV) (i : Nat) : Prop := ∀ j (h : j < l.length), j < i → OpOk l[j] ∧ (0 < j → (l[j - 1]'(by omega)).actor ≤ l[j].actor) ∧ l[j].seq = (own (l.take j) l[j].actor).length + 1
theorem Good1.zero (l : List OpV) : Good1 l 0 := fun j _ h => by omega
theorem Good1.step {l : List OpV} {i : Nat} (hi : i < l.length) (h : Good1 l i) (h1 : OpOk l[i]) (h2 : 0 < i → (l[i - 1]'(by omega)).actor ≤ l[i].actor) (h3 : l[i].seq = (own (l.take i) l[i].actor).length + 1) : Good1 l (i + 1) := fun j hj hlt => by
  rcases Nat.lt_or_ge j i with g | g
  · exact h j hj g
  · obtain rfl : j = i := by omega
    exact ⟨h1, h2, h3⟩
theorem Good1.at {l : List OpV} (h : Good1 l l.length) {i : Nat} (hi : i < l.length) : OpOk l[i] ∧ (0 < i → (l[i - 1]'(by omega)).actor ≤ l[i].actor) ∧ l[i].seq = (own (l.take i) l[i].actor).length + 1 := h i hi hi
theorem Good1.ok {l : List OpV} {i : Nat} (h : Good1 l i) : ∀ o ∈ l.take i, OpOk o := fun o ho => by
  obtain ⟨j, hj, rfl⟩ := List.mem_iff_getElem.1 ho
  simp at hj
  rw [List.getElem_take]
  exact (h j (by omega) (by omega)).1
theorem Good1.all {l : List OpV} (h : Good1 l l.length) : ∀ o ∈ l, OpOk o := by have := h.ok; rwa [List.take_length] at this
theorem Good1.le {l : List OpV} {i j : Nat} (h : Good1 l i) (hj : j ≤ i) : Good1 l j := fun k hk hlt => h k hk (by omega)
/-- What an operation stands upon is there, its stamp above all that. -/
def CauseAt (l : List OpV) (o : OpV) (a : Nat) : Prop := o.deps.getD a 0 ≤ (own l a).length ∧ (0 < o.deps.getD a 0 → ∀ p, (own l a)[(o.deps.getD a 0 - 1).toNat]? = some p → stLt p.time p.actor o.time o.actor)
def Cause (l : List OpV) (o : OpV) : Prop := ∀ a : Nat, a < 16 → CauseAt l o a
noncomputable instance (l : List OpV) (o : OpV) : Decidable (Cause l o) := Classical.propDecidable _
structure LogOk (l : List OpV) : Prop where
  len : l.length ≤ 1024
  good : Good1 l l.length
  same : SameTh thI l
  cause : ∀ o ∈ l, Cause l o
noncomputable instance (l : List OpV) : Decidable (LogOk l) := Classical.propDecidable _
theorem logNo {l : List OpV} (h : ¬ LogOk l) : decide (LogOk l) = false := by simp [h]
theorem logYes {l : List OpV} (h : LogOk l) : decide (LogOk l) = true := by simp [h]

/-- The program's book of a log. -/
structure BookV where
  of : List (List OpV)
  kd : List Int
  size : Int
  tT : Int
  tA : Int
def BookV.zero : BookV := ⟨List.replicate 16 [], List.replicate 101 0, 0, 0, 0⟩
def BookV.put (b : BookV) (o : OpV) : BookV :=
  ⟨b.of.set o.actor.toNat (b.of.getD o.actor.toNat [] ++ [o]), b.kd.set o.obj.toNat (thI o.kind), b.size + 1, if stLt b.tT b.tA o.time o.actor then o.time else b.tT, if stLt b.tT b.tA o.time o.actor then o.actor else b.tA⟩
def bookOf (l : List OpV) : BookV := l.foldl BookV.put .zero
theorem bookOf_snoc (l : List OpV) (o : OpV) : bookOf (l ++ [o]) = (bookOf l).put o := by simp [bookOf]
theorem bookOf_take {l : List OpV} {i : Nat} (h : i < l.length) : bookOf (l.take (i + 1)) = (bookOf (l.take i)).put l[i] := by rw [List.take_succ_eq_append_getElem h, bookOf_snoc]
@[simp] theorem book_of_length (l : List OpV) : (bookOf l).of.length = 16 := by
  induction l using snoc_ind with
  | h0 => rfl
  | hs l o ih => rw [bookOf_snoc]; simpa [BookV.put] using ih
theorem book_kd (l : List OpV) : (bookOf l).kd = kdOf thI l := by
  induction l using snoc_ind with
  | h0 => rfl
  | hs l o ih => rw [bookOf_snoc, kdOf_snoc, ← ih]; rfl
theorem book_size (l : List OpV) : (bookOf l).size = l.length := by
  induction l using snoc_ind with
  | h0 => rfl
  | hs l o ih => rw [bookOf_snoc]; simp only [BookV.put, ih]; simp
theorem book_of {a : Nat} (ha : a < 16) : ∀ (l : List OpV), (∀ o ∈ l, OpOk o) → (bookOf l).of.getD a [] = own l a := by
  intro l
  induction l using snoc_ind with
  | h0 => intro _; simp [bookOf, BookV.zero, own, List.getD, ha, -List.reduceReplicate]
  | hs l o ih =>
    intro hl
    have ho := (hl o (by simp)).st.2
    have ih := ih fun o h => hl o (by simp [h])
    rw [bookOf_snoc, own_snoc]
    simp only [BookV.put]
    by_cases e : o.actor = a
    · have : o.actor.toNat = a := by omega
      rw [if_pos e, this, ih]
      simp [List.getD, ha]
    · have : o.actor.toNat ≠ a := by omega
      rw [if_neg e, List.append_nil, ← ih]
      simp [List.getD, List.getElem?_set, this]

/-- A log in order, by actors: those below, the actor's, those above. -/
theorem split_own : ∀ (l : List OpV) (a : Int), l.Pairwise (fun x y => x.actor ≤ y.actor) → ∃ p q, l = p ++ own l a ++ q ∧ (∀ o ∈ p, o.actor < a) ∧ (∀ o ∈ q, a < o.actor)
  | [], a, _ => ⟨[], [], by simp [own], by simp, by simp⟩
  | o :: l, a, h => by
    rw [List.pairwise_cons] at h
    obtain ⟨p, q, h1, h2, h3⟩ := split_own l a h.2
    by_cases e : o.actor = a
    · have hp : p = [] := by
        cases p with
        | nil => rfl
        | cons x p =>
          have := h2 x (by simp)
          have := h.1 x (by rw [h1]; simp)
          omega
      subst hp
      refine ⟨[], q, ?_, by simp, h3⟩
      have : own (o :: l) a = o :: own l a := by simp [own, List.filter_cons, e]
      rw [this]; simpa using h1
    · have e2 : own (o :: l) a = own l a := by simp [own, List.filter_cons, e]
      rcases Int.lt_or_gt_of_ne e with g | g
      · exact ⟨o :: p, q, by rw [e2]; simpa using h1, fun x hx => (List.mem_cons.1 hx).elim (fun e => e ▸ g) (h2 x), h3⟩
      · refine ⟨[], o :: l, ?_, by simp, fun x hx => ?_⟩
        · have : own l a = [] := by
            rw [own, List.filter_eq_nil_iff]
            intro x hx
            have := h.1 x hx
            simp; omega
          rw [e2, this]; rfl
        · rcases List.mem_cons.1 hx with rfl | hx
          · exact g
          · have := h.1 x hx; omega
theorem Good1.sorted {l : List OpV} (h : Good1 l l.length) : l.Pairwise (fun x y => x.actor ≤ y.actor) := by
  rw [List.pairwise_iff_getElem]
  intro i j hi hj hij
  have : ∀ n, i + n < l.length → ∀ (h1 : i < l.length) (h2 : i + n < l.length), l[i].actor ≤ l[i + n].actor := by
    intro n
    induction n with
    | zero => intro _ _ _; exact Int.le_refl _
    | succ n ih =>
      intro hn h1 h2
      have g1 := ih (by omega) h1 (by omega)
      have g2 := (h.at h2).2.1 (by omega)
      have e : i + (n + 1) - 1 = i + n := by omega
      simp only [e] at g2
      omega
  have g := this (j - i) (by omega) hi (by omega)
  have e : i + (j - i) = j := by omega
  simp only [e] at g
  exact g
/-- How many operations of each actor. -/
def cnts (l : List OpV) : List Int := (List.range 16).map fun a : Nat => ((own l a).length : Int)
@[simp] theorem cnts_length (l : List OpV) : (cnts l).length = 16 := by simp [cnts]
theorem cnts_get (l : List OpV) {a : Nat} (h : a < 16) : (cnts l)[a]'(by simpa using h) = (own l a).length := by simp [cnts]
theorem cnts_set {l : List OpV} {i : Nat} (h : i < l.length) (ha : actOk l[i].actor) : (cnts (l.take i)).set l[i].actor.toNat ((own (l.take i) l[i].actor).length + 1) = cnts (l.take (i + 1)) := by
  apply List.ext_getElem
  · simp
  · intro n h1 h2
    simp only [List.length_set, cnts_length] at h1
    rw [List.getElem_set, cnts_get _ h1, cnts_get _ h1, own_take h]
    split
    · rename_i e
      have : l[i].actor = n := by omega
      rw [if_pos this, this]; simp
    · rename_i e
      rw [if_neg (by omega)]; simp
end Go.Proofs.Ytpdjehnlejjfmaa.D
/- A log's bytes, plainly. -/
namespace Go.Proofs.Ytpdjehnlejjfmaa.D
open Go.RowKit
set_option maxRecDepth 100000
set_option linter.unusedVariables false
set_option linter.unusedSimpArgs false

/-- The c-th number of an operation; a column of a log; the first columns' bytes. -/
def colV (o : OpV) (c : Nat) : Int := (nums o ++ o.deps).getD c 0
def colL (l : List OpV) (c : Nat) : List Int := l.map fun o => colV o c
@[simp] theorem colL_length (l : List OpV) (c : Nat) : (colL l c).length = l.length := by simp [colL]
def colsB (l : List OpV) : Nat → List UInt8 | 0 => [] | n + 1 => colsB l n ++ putR (colL l n)
def keysOf (l : List OpV) : List (List UInt8) := l.map fun o => o.key
def textsOf (l : List OpV) : List (List UInt8) := l.map fun o => o.text
@[simp] theorem keysOf_length (l : List OpV) : (keysOf l).length = l.length := by simp [keysOf]
@[simp] theorem textsOf_length (l : List OpV) : (textsOf l).length = l.length := by simp [textsOf]
def logB0 (l : List OpV) : List UInt8 := colsB l 25 ++ putT (keysOf l) ++ putT (textsOf l)
def logB (l : List OpV) : List UInt8 := logB0 l ++ four (sumH 2166136261 (logB0 l))
theorem nums_le {o : OpV} (h : OpOk o) : ∀ x ∈ nums o ++ o.deps, 0 ≤ x ∧ x ≤ 2000000000000 := by
  have hk := h.kinds
  obtain ⟨⟨t1, a1⟩, s, v, _, ob, n, u, _, at_, k⟩ := h
  have hz : (zig o.n : Int) ≤ 2000000000000 := by unfold zig; split <;> omega
  have hA : 0 ≤ o.atT ∧ o.atT ≤ 1000000000000 ∧ 0 ≤ o.atA ∧ o.atA < 16 := by
    rcases at_ with ⟨h1, h2⟩ | ⟨⟨h1, h2⟩, _⟩ <;> omega
  intro x hx
  rcases List.mem_append.1 hx with hx | hx
  · simp only [nums, List.mem_cons, List.not_mem_nil, or_false] at hx
    rcases hx with rfl | rfl | rfl | rfl | rfl | rfl | rfl | rfl | rfl <;> omega
  · have := v.2 x hx
    unfold cntOk at this
    omega
theorem colV_le {o : OpV} (h : OpOk o) {c : Nat} (hc : c < 25) : 0 ≤ colV o c ∧ colV o c ≤ 2000000000000 := by
  have hl : (nums o ++ o.deps).length = 25 := by simp [nums, h.vec.1]
  unfold colV
  rw [List.getD_eq_getElem?_getD, List.getElem?_eq_getElem (by omega)]
  exact nums_le h _ (List.getElem_mem _)
theorem colL_le {l : List OpV} (h : ∀ o ∈ l, OpOk o) {c : Nat} (hc : c < 25) : ∀ x ∈ colL l c, 0 ≤ x ∧ x ≤ 2000000000000 := fun x hx => by
  obtain ⟨o, ho, rfl⟩ := List.mem_map.1 hx
  exact colV_le (h o ho) hc
theorem colL_in {l : List OpV} (h : ∀ o ∈ l, OpOk o) {c : Nat} (hc : c < 25) : ∀ x ∈ colL l c, inM x := fun x hx => by
  have := colL_le h hc x hx
  unfold inM M4; omega
theorem putRs_len15 : ∀ (n : Nat) (l : List Int), l.length ≤ n → (∀ x ∈ l, 0 ≤ x ∧ x ≤ 2000000000000) → l.length ≤ 1024 → (putRs l).length ≤ 15 * l.length := by
  intro n
  induction n with
  | zero => intro l h _ _; have : l = [] := List.eq_nil_of_length_eq_zero (by omega); subst this; simp [putRs_nil]
  | succ n ih =>
    intro l h hx hl
    rcases Nat.eq_zero_or_pos l.length with h0 | h0
    · have : l = [] := List.eq_nil_of_length_eq_zero h0; subst this; simp [putRs_nil]
    · have e := putRs_step (l := l) h0
      have b := hx _ (List.getElem_mem h0)
      have hr := rl_le l
      have hp := rl_pos (s := l) (by intro e; rw [e] at h0; simp at h0)
      simp only [List.drop_zero, Nat.zero_add] at e
      have h2 := ih (l.drop (rl l)) (by simp; omega) (fun x hx' => hx x (List.mem_of_mem_drop hx')) (by simp; omega)
      have b1 : (put (l[0]).toNat).length ≤ 6 := put_le 6 _ (by omega) (by omega)
      have b2 : (put (rl l)).length ≤ 2 := put_le 2 _ (by omega) (by omega)
      have b3 : (if h : 1 < l.length then put (zig (l[1] - l[0])) else []).length ≤ 7 := by
        split
        · rename_i h1
          have c := hx _ (List.getElem_mem h1)
          refine put_le 7 _ ?_ (by omega)
          unfold zig; split <;> omega
        · simp
      have := congrArg List.length e
      simp only [List.length_append, List.length_drop] at this h2
      rw [this]
      have : 15 * (l.length - rl l) + 15 * 1 ≤ 15 * l.length := by omega
      omega
theorem colsB_len {l : List OpV} (h : ∀ o ∈ l, OpOk o) (hl : l.length ≤ 1024) : ∀ n, n ≤ 25 → (colsB l n).length ≤ n * 15369
  | 0, _ => by simp [colsB]
  | n + 1, hn => by
    have h1 := colsB_len h hl n (by omega)
    have h2 := putRs_len15 _ (colL l n) (Nat.le_refl _) (colL_le h (by omega)) (by simpa using hl)
    have h3 := put_len (n := (colL l n).length) (by simp; omega)
    simp only [colsB, List.length_append, putR]
    simp only [colL_length] at h2 h3 ⊢
    omega
theorem words_total {l : List OpV} (h : ∀ o ∈ l, OpOk o) : total (keysOf l) ≤ 200 * l.length ∧ total (textsOf l) ≤ 200 * l.length := by
  induction l with
  | nil => simp [keysOf, textsOf, total]
  | cons o l ih =>
    have h1 := ih fun o ho => h o (by simp [ho])
    have h2 := (h o (by simp)).words
    simp only [keysOf, textsOf, List.map_cons, total_cons, List.length_cons] at h1 ⊢
    omega
theorem putT_len200 {ts : List (List UInt8)} (hl : ts.length ≤ 1024) (ht : total ts ≤ 200 * ts.length) : (putT ts).length ≤ 223300 := by
  have h2 := putTs_len ts [] (by omega)
  have h3 := put_len (n := ts.length) (by omega)
  rw [putT, List.length_append]
  omega
theorem logB0_len {l : List OpV} (h : LogOk l) : (logB0 l).length ≤ 1048000 := by
  have hl := h.len
  have h1 := colsB_len h.good.all hl 25 (by omega)
  have h2 := words_total h.good.all
  have h3 := putT_len200 (ts := keysOf l) (by simpa using hl) (by simpa using h2.1)
  have h4 := putT_len200 (ts := textsOf l) (by simpa using hl) (by simpa using h2.2)
  simp only [logB0, List.length_append]
  omega
theorem logB_len {l : List OpV} (h : LogOk l) : (logB l).length ≤ 1048004 := by
  have := logB0_len h
  simp only [logB, List.length_append]
  simp [four]; omega
end Go.Proofs.Ytpdjehnlejjfmaa.D
/- What the laws do with bytes: copied, compared, marked. -/
namespace Go.Proofs.Ytpdjehnlejjfmaa.D
open Go.RowKit
set_option maxRecDepth 100000
set_option linter.unusedVariables false
set_option linter.unusedSimpArgs false

theorem l_toByteS (l : List UInt8) (hl : l.length ≤ 2 ^ 39) : CallD Try.prog id_laws_toByteS [vY l] [] (.one (.os (.v 0) 1 0 l.length)) [.own 1 (l.map byD)] := by
  refine F_laws_toByteS ?_
  try (conv => whnf)
  repeat (first
    | (refine Need.mk ?_ ?_; (focus (omega)); conv => whnf)
    | (refine Pick.mk ?_ ?_ ?_; rotate_left; (focus (first | exact List.length_map _ | exact natlit _ | exact rep_by _)); conv => whnf))
  refine LoopE.mk (fun i : Nat => mk [(0, vY l), (3, .one (.os (.v 8224) 1 0 l.length)), (4, vI .i64 i)] [(8224, .own 1 ((over l (List.replicate l.length 0) i).map byD))]) (fun i => i ≤ l.length) (fun i => l.length - i) 0 (by omega) (LeX.of ?_) ?_
  · try (conv => whnf)
    repeat (refine Need.mk ?_ ?_; (focus (first | omega | (simp; done) | rfl)); conv => whnf)
    trivial
  · intro i hi
    try (conv => whnf)
    repeat' (first
      | (refine Need.mk ?_ ?_; (focus (omega)); conv => whnf)
      | (refine Pick.mk ?_ ?_ ?_; rotate_left; (focus (first | exact List.length_map _ | (refine pick_nat _ _ _ ?_; omega))); conv => whnf)
      | (refine SeqJ.thru ?_; conv => whnf)
      | (refine br_dec (fun _ => ?_) (fun _ => ?_) <;> first | (exfalso; omega) | contradiction | conv => whnf)
      | (refine br_not ?_; conv => whnf)
      | (refine br_bne (fun _ => ?_) (fun _ => ?_) <;> first | (exfalso; omega) | contradiction | conv => whnf)
      | (refine br_beq (fun _ => ?_) (fun _ => ?_) <;> first | (exfalso; omega) | contradiction | conv => whnf))
    · refine Pick.mk (byD 0) (by rw [addN_eq, List.getElem?_map, show 0 + (i : Int).toNat = i by omega, over_get (by simp) (by simp; omega)]; simp) ?_
      try (conv => whnf)
      repeat (first
        | (refine Need.mk ?_ ?_; (focus ((simp only [List.length_map, List.length_append, List.length_cons, List.length_nil, List.length_replicate]; omega))); conv => whnf)
        | (refine Pick.mk ?_ ?_ ?_; rotate_left; (focus (first | with_reducible exact set_byN _ _ _ _ | (refine wid ?_ ?_ <;> omega))); conv => whnf))
      refine Pick.mk (i + 1) (by constructor <;> first | omega | (simp only []; omega)) (LeX.of ?_)
      try (conv => whnf)
      repeat (refine Need.mk ?_ ?_; (focus (first | omega | (simp; done))); conv => whnf)
      refine Need.mk (by rw [over_set (by simp) (by simp; omega)]) ?_
      try (conv => whnf)
      trivial
    · refine Out.mk false [0, 1, 2, 3, 4] [] ?_
      try (conv => whnf)
      repeat (refine Need.mk ?_ ?_; (focus ((first | exact flat_by _ | exact flat_in _ | exact flat_st _ | exact flat_ts _ | exact flat_bo _ | exact flat_cl rfl))); conv => whnf)
      rw [over_end (by simp) (by simp; omega)]
      exact ⟨rfl, rfl⟩
theorem take_eq_step {α : Type} {a b : List α} {i : Nat} (ha : i < a.length) (hb : i < b.length) (h : a.take i = b.take i) (h2 : a[i] = b[i]) : a.take (i + 1) = b.take (i + 1) := by
  rw [List.take_succ_eq_append_getElem ha, List.take_succ_eq_append_getElem hb, h, h2]
theorem by_ne {a b : UInt8} (h : ¬ (IntKind.u8, (a.toNat : Int)) = (IntKind.u8, (b.toNat : Int))) : a ≠ b := by rintro rfl; exact h rfl
theorem l_eqByteS (a b : List UInt8) (ha : a.length ≤ 2 ^ 39) (hb : b.length ≤ 2 ^ 39) : CallD Try.prog id_laws_eqByteS [vY a, vY b] [] (vB (decide (a = b))) [] := by
  refine F_laws_eqByteS ?_
  try (conv => whnf)
  repeat' (first
    | (refine Pick.mk ?_ ?_ ?_; rotate_left; (focus (exact List.length_map _)); conv => whnf)
    | (refine SeqJ.thru ?_; conv => whnf)
    | (refine br_dec (fun _ => ?_) (fun _ => ?_) <;> first | (exfalso; omega) | contradiction | conv => whnf)
    | (refine br_not ?_; conv => whnf)
    | (refine br_bne (fun _ => ?_) (fun _ => ?_) <;> first | (exfalso; omega) | contradiction | conv => whnf)
    | (refine br_beq (fun _ => ?_) (fun _ => ?_) <;> first | (exfalso; omega) | contradiction | conv => whnf))
  · refine LoopE.mk (fun i : Nat => mk [(0, vY a), (1, vY b), (5, vI .i64 i)] []) (fun i => i ≤ a.length ∧ a.take i = b.take i) (fun i => a.length - i) 0 (by simp) (LeX.of ?_) ?_
    · try (conv => whnf)
      repeat (refine Need.mk ?_ ?_; (focus (first | omega | (simp; done))); conv => whnf)
      trivial
    · rintro i ⟨hi, he⟩
      try (conv => whnf)
      repeat' (first
        | (refine Pick.mk ?_ ?_ ?_; rotate_left; (focus (first | exact List.length_map _ | (refine wid ?_ ?_ <;> omega) | (refine pick_nat _ _ _ ?_; omega))); conv => whnf)
        | (refine SeqJ.thru ?_; conv => whnf)
        | (refine br_dec (fun _ => ?_) (fun _ => ?_) <;> first | (exfalso; omega) | contradiction | conv => whnf)
        | (refine br_not ?_; conv => whnf)
        | (refine br_bne (fun _ => ?_) (fun _ => ?_) <;> first | (exfalso; omega) | contradiction | conv => whnf)
        | (refine br_beq (fun _ => ?_) (fun _ => ?_) <;> first | (exfalso; omega) | contradiction | conv => whnf))
      · rename_i g1 g2
        have h1 : i < a.length := by omega
        have h2 : i < b.length := by omega
        have h3 : a[i] = b[i] := UInt8.toNat.inj (by omega)
        refine Pick.mk (i + 1) ⟨⟨by omega, take_eq_step h1 h2 he h3⟩, by omega⟩ (LeX.of ?_)
        try (conv => whnf)
        repeat (refine Need.mk ?_ ?_; (focus (first | omega | (simp; done))); conv => whnf)
        trivial
      · rename_i g1 g2
        refine Out.mk true [] [] ?_
        try (conv => whnf)
        have : a ≠ b := by rintro rfl; exact g2 rfl
        simp [this]; exact ⟨trivial⟩
      · rename_i g1
        refine Out.mk true [] [] ?_
        try (conv => whnf)
        have : a = b := by rw [List.take_of_length_le (by omega), List.take_of_length_le (by omega)] at he; exact he
        simp [this]; exact ⟨trivial⟩
  · refine Out.mk true [] [] ?_
    try (conv => whnf)
    have : a ≠ b := by rintro rfl; omega
    simp [this]; exact ⟨trivial⟩
/-- The marks from a number on. -/
def marks (k : Int) (n : Nat) : List UInt8 := (List.range n).map fun (i : Nat) => u8 (k + i)
@[simp] theorem marks_length (k : Int) (n : Nat) : (marks k n).length = n := by simp [marks]
theorem marks_get (k : Int) {n i : Nat} (h : i < n) : (marks k n)[i]'(by simpa using h) = u8 (k + i) := by simp [marks]
theorem l_markByteS (a : List UInt8) (k : Int) (ha : a.length ≤ 2 ^ 39) (h0 : 0 ≤ k) (h1 : k ≤ 2 ^ 60) :
    CallMD Try.prog id_laws_markByteS [.one (.os (.v 0) 1 0 a.length), vI .i64 k] [.own 1 (a.map byD)] [] (vI .i64 (k + a.length)) [.own 1 ((marks k a.length).map byD)] := by
  refine F_laws_markByteS ?_
  try (conv => whnf)
  refine LoopE.mk (fun i : Nat => mk [(0, .one (.os (.v 0) 1 0 a.length)), (1, vI .i64 (k + i)), (5, vI .i64 i)] [(0, .own 1 ((over (marks k a.length) a i).map byD))]) (fun i => i ≤ a.length) (fun i => a.length - i) 0 (by omega) (LeX.of ?_) ?_
  · try (conv => whnf)
    repeat (refine Need.mk ?_ ?_; (focus (first | omega | rfl)); conv => whnf)
    trivial
  · intro i hi
    try (conv => whnf)
    repeat' (first
      | (refine Need.mk ?_ ?_; (focus (omega)); conv => whnf)
      | (refine Pick.mk ?_ ?_ ?_; rotate_left; (focus (exact wbyte _)); conv => whnf)
      | (refine SeqJ.thru ?_; conv => whnf)
      | (refine br_dec (fun _ => ?_) (fun _ => ?_) <;> first | (exfalso; omega) | contradiction | conv => whnf)
      | (refine br_not ?_; conv => whnf)
      | (refine br_bne (fun _ => ?_) (fun _ => ?_) <;> first | (exfalso; omega) | contradiction | conv => whnf)
      | (refine br_beq (fun _ => ?_) (fun _ => ?_) <;> first | (exfalso; omega) | contradiction | conv => whnf))
    · skip
      refine Pick.mk (byD (a[i]'(by omega))) (by rw [addN_eq, List.getElem?_map, show 0 + (i : Int).toNat = i by omega, over_get (by simp) (by omega)]; simp) ?_
      try (conv => whnf)
      repeat (first
        | (refine Need.mk ?_ ?_; (focus ((simp only [List.length_map, List.length_append, List.length_cons, List.length_nil, List.length_replicate]; omega))); conv => whnf)
        | (refine Pick.mk ?_ ?_ ?_; rotate_left; (focus (first | with_reducible exact set_byN _ _ _ _ | (refine wid ?_ ?_ <;> omega))); conv => whnf))
      refine Pick.mk (i + 1) (by constructor <;> first | omega | (simp only []; omega)) (LeX.of ?_)
      try (conv => whnf)
      repeat (refine Need.mk ?_ ?_; (focus (omega)); conv => whnf)
      refine Need.mk (by rw [← over_set (by simp) (by omega), marks_get _ (by omega)]) ?_
      try (conv => whnf)
      trivial
    · refine Out.mk false [0, 1, 2, 3, 4] [] ?_
      try (conv => whnf)
      repeat (refine Need.mk ?_ ?_; (focus ((first | exact flat_by _ | exact flat_in _ | exact flat_st _ | exact flat_ts _ | exact flat_bo _ | exact flat_cl rfl))); conv => whnf)
      rw [over_end (by simp) (by omega)]
      exact ⟨by congr; omega, rfl⟩
theorem l_heldByteS (n : Nat) (k : Int) (ha : n ≤ 2 ^ 39) (h0 : 0 ≤ k) (h1 : k ≤ 2 ^ 60) :
    CallD Try.prog id_laws_heldByteS [vY (marks k n), vI .i64 k] [] (vI .i64 (k + n)) [] := by
  refine F_laws_heldByteS ?_
  have hm : (marks k n).length = n := by simp
  try (conv => whnf)
  refine LoopE.mk (fun i : Nat => mk [(0, vY (marks k n)), (1, vI .i64 (k + i)), (5, vI .i64 i)] []) (fun i => i ≤ n) (fun i => n - i) 0 (by omega) (LeX.of ?_) ?_
  · try (conv => whnf)
    repeat (refine Need.mk ?_ ?_; (focus (first | omega | (simp; done))); conv => whnf)
    trivial
  · intro i hi
    try (conv => whnf)
    repeat' (first
      | (refine Pick.mk ?_ ?_ ?_; rotate_left; (focus (first | exact List.length_map _ | (refine wid ?_ ?_ <;> omega) | exact wbyte _ | (refine pick_nat _ _ _ ?_; omega))); conv => whnf)
      | (refine SeqJ.thru ?_; conv => whnf)
      | (refine br_dec (fun _ => ?_) (fun _ => ?_) <;> first | (exfalso; omega) | contradiction | conv => whnf)
      | (refine br_not ?_; conv => whnf)
      | (refine br_bne (fun _ => ?_) (fun _ => ?_) <;> first | (exfalso; omega) | contradiction | conv => whnf)
      | (refine br_beq (fun _ => ?_) (fun _ => ?_) <;> first | (exfalso; omega) | contradiction | conv => whnf))
    · refine Pick.mk (i + 1) (by constructor <;> first | omega | (simp only []; omega)) (LeX.of ?_)
      try (conv => whnf)
      repeat (refine Need.mk ?_ ?_; (focus (first | omega | (simp; done))); conv => whnf)
      trivial
    · rename_i g1 g2
      exfalso
      rw [marks_get k (by omega)] at g2
      simp at g2
    · refine Out.mk true [] [] ?_
      try (conv => whnf)
      exact ⟨by congr; omega, rfl⟩
end Go.Proofs.Ytpdjehnlejjfmaa.D
/- What the laws do with numbers in a row, and with operations: copied, compared, marked. -/
namespace Go.Proofs.Ytpdjehnlejjfmaa.D
open Go.RowKit
set_option maxRecDepth 100000
set_option maxHeartbeats 4000000
set_option linter.unusedVariables false
set_option linter.unusedSimpArgs false

theorem l_toIntS (l : List Int) (hl : l.length ≤ 2 ^ 39) : CallD Try.prog id_laws_toIntS [vN l] [] (.one (.os (.v 0) 1 0 l.length)) [.own 1 (l.map inD)] := by
  refine F_laws_toIntS ?_
  try (conv => whnf)
  repeat (first
    | (refine Need.mk ?_ ?_; (focus (omega)); conv => whnf)
    | (refine Pick.mk ?_ ?_ ?_; rotate_left; (focus (first | exact List.length_map _ | exact natlit _ | exact rep_in _)); conv => whnf))
  refine LoopE.mk (fun i : Nat => mk [(0, vN l), (3, .one (.os (.v 8224) 1 0 l.length)), (4, vI .i64 i)] [(8224, .own 1 ((over l (List.replicate l.length 0) i).map inD))]) (fun i => i ≤ l.length) (fun i => l.length - i) 0 (by omega) (LeX.of ?_) ?_
  · try (conv => whnf)
    repeat (refine Need.mk ?_ ?_; (focus (first | omega | (simp; done) | rfl)); conv => whnf)
    trivial
  · intro i hi
    try (conv => whnf)
    repeat' (first
      | (refine Need.mk ?_ ?_; (focus (omega)); conv => whnf)
      | (refine Pick.mk ?_ ?_ ?_; rotate_left; (focus (first | exact List.length_map _ | (refine pick_nat _ _ _ ?_; omega))); conv => whnf)
      | (refine SeqJ.thru ?_; conv => whnf)
      | (refine br_dec (fun _ => ?_) (fun _ => ?_) <;> first | (exfalso; omega) | contradiction | conv => whnf)
      | (refine br_not ?_; conv => whnf)
      | (refine br_bne (fun _ => ?_) (fun _ => ?_) <;> first | (exfalso; omega) | contradiction | conv => whnf)
      | (refine br_beq (fun _ => ?_) (fun _ => ?_) <;> first | (exfalso; omega) | contradiction | conv => whnf))
    · refine Pick.mk (inD 0) (by rw [addN_eq, List.getElem?_map, show 0 + (i : Int).toNat = i by omega, over_get (by simp) (by simp; omega)]; simp) ?_
      try (conv => whnf)
      repeat (first
        | (refine Need.mk ?_ ?_; (focus ((simp only [List.length_map, List.length_append, List.length_cons, List.length_nil, List.length_replicate]; omega))); conv => whnf)
        | (refine Pick.mk ?_ ?_ ?_; rotate_left; (focus (first | with_reducible exact set_inN _ _ _ _ | (refine wid ?_ ?_ <;> omega))); conv => whnf))
      refine Pick.mk (i + 1) (by constructor <;> first | omega | (simp only []; omega)) (LeX.of ?_)
      try (conv => whnf)
      repeat (refine Need.mk ?_ ?_; (focus (first | omega | (simp; done))); conv => whnf)
      refine Need.mk (by rw [over_set (by simp) (by simp; omega)]) ?_
      try (conv => whnf)
      trivial
    · refine Out.mk false [0, 1, 2, 3, 4] [] ?_
      try (conv => whnf)
      repeat (refine Need.mk ?_ ?_; (focus ((first | exact flat_by _ | exact flat_in _ | exact flat_st _ | exact flat_ts _ | exact flat_bo _ | exact flat_cl rfl))); conv => whnf)
      rw [over_end (by simp) (by simp; omega)]
      exact ⟨rfl, rfl⟩
theorem l_toVector (l : List Int) (hl : l.length ≤ 2 ^ 39) : CallD Try.prog id_laws_toVector [vV l] [] (.agg [.os (.v 0) 1 0 l.length]) [.own 1 (l.map inD)] := by
  refine F_laws_toVector ?_
  try (conv => whnf)
  refine Hand.mk [] ?_
  try (conv => whnf)
  refine CallW.d (l_toIntS l hl) ?_
  try (conv => whnf)
  refine Out.mk false [0, 1, 2, 3, 4] [] ?_
  try (conv => whnf)
  repeat (refine Need.mk ?_ ?_; (focus ((first | exact flat_by _ | exact flat_in _ | exact flat_st _ | exact flat_ts _ | exact flat_bo _ | exact flat_cl rfl))); conv => whnf)
  exact ⟨rfl, rfl⟩
theorem l_toStamp (t a : Int) : CallD Try.prog id_laws_toStamp [vSt t a] [] (vSt t a) [] := by
  refine F_laws_toStamp ?_
  try (conv => whnf)
  refine Out.mk true [] [] ?_
  try (conv => whnf)
  exact ⟨rfl, rfl⟩
/-- An operation whose vector lies in a row of its own. -/
abbrev vOw (o : OpV) : SV := .agg [cI o.actor, cI o.seq, cI o.time, .os (.v 0) 1 0 o.deps.length, cI o.kind, cI o.obj, cI o.n, cI o.undo, cI o.atT, cI o.atA, cS (bs o.key), cS (bs o.text)]
theorem l_toOp (o : OpV) (hl : o.deps.length ≤ 2 ^ 39) : CallD Try.prog id_laws_toOp [vO o] [] (vOw o) [.own 1 (o.deps.map inD)] := by
  refine F_laws_toOp ?_
  try (conv => whnf)
  refine Hand.mk [] ?_
  try (conv => whnf)
  refine CallW.d (l_toVector o.deps hl) ?_
  try (conv => whnf)
  refine Hand.mk [] ?_
  try (conv => whnf)
  refine CallW.d (l_toStamp o.atT o.atA) ?_
  try (conv => whnf)
  refine Out.mk false [0, 1, 2, 3, 4] [] ?_
  try (conv => whnf)
  repeat (refine Need.mk ?_ ?_; (focus ((first | exact flat_by _ | exact flat_in _ | exact flat_st _ | exact flat_ts _ | exact flat_bo _ | exact flat_cl rfl))); conv => whnf)
  exact ⟨rfl, rfl⟩
theorem vI_ext {a b : Int} (h : a = b) : vI .i64 a = vI .i64 b := by rw [h]
/-- What is left after n more. -/
def szL (left : Int) (n : Nat) : Int := if left < n then -1 else left - n
theorem l_szIntS (l : List Int) (left : Int) (hl : l.length ≤ 9223372036854775807) (h0 : 0 ≤ left) (h1 : left ≤ 2 ^ 40) : CallD Try.prog id_laws_szIntS [vN l, vI .i64 left] [] (vI .i64 (szL left l.length)) [] := by
  refine F_laws_szIntS ?_
  try (conv => whnf)
  repeat' (first
    | (refine Pick.mk ?_ ?_ ?_; rotate_left; (focus (first | exact List.length_map _ | (refine wid ?_ ?_ <;> omega))); conv => whnf)
    | (refine SeqJ.thru ?_; conv => whnf)
    | (refine br_dec (fun _ => ?_) (fun _ => ?_) <;> first | (exfalso; omega) | contradiction | conv => whnf)
    | (refine br_not ?_; conv => whnf)
    | (refine br_bne (fun _ => ?_) (fun _ => ?_) <;> first | (exfalso; omega) | contradiction | conv => whnf)
    | (refine br_beq (fun _ => ?_) (fun _ => ?_) <;> first | (exfalso; omega) | contradiction | conv => whnf))
  all_goals
    refine Out.mk true [] [] ?_
    try (conv => whnf)
  all_goals first
    | exact ⟨by rw [szL, if_pos (by omega)], rfl⟩
    | exact ⟨by rw [szL, if_neg (by omega)], rfl⟩
theorem l_szVector (l : List Int) (left : Int) (hl : l.length ≤ 9223372036854775807) (h0 : 0 ≤ left) (h1 : left ≤ 2 ^ 40) : CallD Try.prog id_laws_szVector [vV l, vI .i64 left] [] (vI .i64 (szL left l.length)) [] := by
  refine F_laws_szVector ?_
  try (conv => whnf)
  refine Hand.mk [] ?_
  try (conv => whnf)
  refine CallW.d (l_szIntS l left hl h0 h1) ?_
  try (conv => whnf)
  repeat (refine SeqJ.thru ?_; conv => whnf)
  by_cases h : left < l.length
  · rw [show szL left l.length = -1 from if_pos h]
    try (conv => whnf)
    repeat' (first
      | (refine br_dec (fun _ => ?_) (fun _ => ?_) <;> first | (exfalso; omega) | contradiction | conv => whnf)
      | (refine br_not ?_; conv => whnf)
      | (refine br_bne (fun _ => ?_) (fun _ => ?_) <;> first | (exfalso; omega) | contradiction | conv => whnf)
      | (refine br_beq (fun _ => ?_) (fun _ => ?_) <;> first | (exfalso; omega) | contradiction | conv => whnf))
    refine Out.mk true [] [] ?_
    try (conv => whnf)
    exact ⟨rfl, rfl⟩
  · rw [show szL left l.length = left - l.length from if_neg h]
    try (conv => whnf)
    repeat' (first
      | (refine br_dec (fun _ => ?_) (fun _ => ?_) <;> first | (exfalso; omega) | contradiction | conv => whnf)
      | (refine br_not ?_; conv => whnf)
      | (refine br_bne (fun _ => ?_) (fun _ => ?_) <;> first | (exfalso; omega) | contradiction | conv => whnf)
      | (refine br_beq (fun _ => ?_) (fun _ => ?_) <;> first | (exfalso; omega) | contradiction | conv => whnf))
    refine Out.mk true [] [] ?_
    try (conv => whnf)
    exact ⟨rfl, rfl⟩
theorem l_szOp (o : OpV) (left : Int) (hl : o.deps.length ≤ 9223372036854775807) (hk : o.key.length ≤ 9223372036854775807) (ht : o.text.length ≤ 9223372036854775807) (h0 : 0 ≤ left) (h1 : left ≤ 2 ^ 40) :
    CallD Try.prog id_laws_szOp [vO o, vI .i64 left] [] (vI .i64 (szL left (o.deps.length + o.key.length + o.text.length))) [] := by
  refine F_laws_szOp ?_
  try (conv => whnf)
  refine Hand.mk [] ?_
  try (conv => whnf)
  refine CallW.d (l_szVector o.deps left hl h0 h1) ?_
  try (conv => whnf)
  repeat (refine SeqJ.thru ?_; conv => whnf)
  by_cases h : left < o.deps.length
  · rw [show szL left o.deps.length = -1 from if_pos h]
    try (conv => whnf)
    repeat' (first
      | (refine br_dec (fun _ => ?_) (fun _ => ?_) <;> first | (exfalso; omega) | contradiction | conv => whnf)
      | (refine br_not ?_; conv => whnf)
      | (refine br_bne (fun _ => ?_) (fun _ => ?_) <;> first | (exfalso; omega) | contradiction | conv => whnf)
      | (refine br_beq (fun _ => ?_) (fun _ => ?_) <;> first | (exfalso; omega) | contradiction | conv => whnf))
    refine Out.mk true [] [] ?_
    try (conv => whnf)
    exact ⟨by rw [szL, if_pos (by omega)], rfl⟩
  · rw [show szL left o.deps.length = left - o.deps.length from if_neg h]
    try (conv => whnf)
    repeat' (first
      | (refine Pick.mk ?_ ?_ ?_; rotate_left; (focus (first | exact size_bs _ | (refine wid ?_ ?_ <;> omega))); conv => whnf)
      | (refine SeqJ.thru ?_; conv => whnf)
      | (refine br_dec (fun _ => ?_) (fun _ => ?_) <;> first | (exfalso; omega) | contradiction | conv => whnf)
      | (refine br_not ?_; conv => whnf)
      | (refine br_bne (fun _ => ?_) (fun _ => ?_) <;> first | (exfalso; omega) | contradiction | conv => whnf)
      | (refine br_beq (fun _ => ?_) (fun _ => ?_) <;> first | (exfalso; omega) | contradiction | conv => whnf))
    all_goals
      refine Out.mk true [] [] ?_
      try (conv => whnf)
    all_goals first
      | exact ⟨by rw [szL, if_pos (by omega)], rfl⟩
      | exact ⟨by rw [szL, if_neg (by omega)]; exact vI_ext (by push_cast; omega), rfl⟩
theorem l_eqIntS (a b : List Int) (ha : a.length ≤ 2 ^ 39) (hb : b.length ≤ 2 ^ 39) : CallD Try.prog id_laws_eqIntS [vN a, vN b] [] (vB (decide (a = b))) [] := by
  refine F_laws_eqIntS ?_
  try (conv => whnf)
  repeat' (first
    | (refine Pick.mk ?_ ?_ ?_; rotate_left; (focus (exact List.length_map _)); conv => whnf)
    | (refine SeqJ.thru ?_; conv => whnf)
    | (refine br_dec (fun _ => ?_) (fun _ => ?_) <;> first | (exfalso; omega) | contradiction | conv => whnf)
    | (refine br_not ?_; conv => whnf)
    | (refine br_bne (fun _ => ?_) (fun _ => ?_) <;> first | (exfalso; omega) | contradiction | conv => whnf)
    | (refine br_beq (fun _ => ?_) (fun _ => ?_) <;> first | (exfalso; omega) | contradiction | conv => whnf))
  · refine LoopE.mk (fun i : Nat => mk [(0, vN a), (1, vN b), (5, vI .i64 i)] []) (fun i => i ≤ a.length ∧ a.take i = b.take i) (fun i => a.length - i) 0 (by simp) (LeX.of ?_) ?_
    · try (conv => whnf)
      repeat (refine Need.mk ?_ ?_; (focus (first | omega | (simp; done))); conv => whnf)
      trivial
    · rintro i ⟨hi, he⟩
      try (conv => whnf)
      repeat' (first
        | (refine Pick.mk ?_ ?_ ?_; rotate_left; (focus (first | exact List.length_map _ | (refine wid ?_ ?_ <;> omega) | (refine pick_nat _ _ _ ?_; omega))); conv => whnf)
        | (refine SeqJ.thru ?_; conv => whnf)
        | (refine br_dec (fun _ => ?_) (fun _ => ?_) <;> first | (exfalso; omega) | contradiction | conv => whnf)
        | (refine br_not ?_; conv => whnf)
        | (refine br_bne (fun _ => ?_) (fun _ => ?_) <;> first | (exfalso; omega) | contradiction | conv => whnf)
        | (refine br_beq (fun _ => ?_) (fun _ => ?_) <;> first | (exfalso; omega) | contradiction | conv => whnf))
      · rename_i g1 g2
        refine Pick.mk (i + 1) ⟨⟨by omega, take_eq_step (by omega) (by omega) he (by omega)⟩, by omega⟩ (LeX.of ?_)
        try (conv => whnf)
        repeat (refine Need.mk ?_ ?_; (focus (first | omega | (simp; done))); conv => whnf)
        trivial
      · rename_i g1 g2
        refine Out.mk true [] [] ?_
        try (conv => whnf)
        have : a ≠ b := by rintro rfl; exact g2 rfl
        simp [this]; exact ⟨trivial⟩
      · refine Out.mk true [] [] ?_
        try (conv => whnf)
        have : a = b := by rw [List.take_of_length_le (by omega), List.take_of_length_le (by omega)] at he; exact he
        simp [this]; exact ⟨trivial⟩
  · refine Out.mk true [] [] ?_
    try (conv => whnf)
    have : a ≠ b := by rintro rfl; omega
    simp [this]; exact ⟨trivial⟩
/-- The marks from a number on, as numbers. -/
def markIs (k : Int) (n : Nat) : List Int := (List.range n).map fun (i : Nat) => k + i
@[simp] theorem markIs_length (k : Int) (n : Nat) : (markIs k n).length = n := by simp [markIs]
theorem markIs_get (k : Int) {n i : Nat} (h : i < n) : (markIs k n)[i]'(by simpa using h) = k + i := by simp [markIs]
theorem l_markIntS (a : List Int) (k : Int) (ha : a.length ≤ 2 ^ 39) (h0 : 0 ≤ k) (h1 : k ≤ 2 ^ 60) :
    CallMD Try.prog id_laws_markIntS [.one (.os (.v 0) 1 0 a.length), vI .i64 k] [.own 1 (a.map inD)] [] (vI .i64 (k + a.length)) [.own 1 ((markIs k a.length).map inD)] := by
  refine F_laws_markIntS ?_
  try (conv => whnf)
  refine LoopE.mk (fun i : Nat => mk [(0, .one (.os (.v 0) 1 0 a.length)), (1, vI .i64 (k + i)), (5, vI .i64 i)] [(0, .own 1 ((over (markIs k a.length) a i).map inD))]) (fun i => i ≤ a.length) (fun i => a.length - i) 0 (by omega) (LeX.of ?_) ?_
  · try (conv => whnf)
    repeat (refine Need.mk ?_ ?_; (focus (first | omega | rfl)); conv => whnf)
    trivial
  · intro i hi
    try (conv => whnf)
    repeat' (first
      | (refine Need.mk ?_ ?_; (focus (omega)); conv => whnf)
      | (refine SeqJ.thru ?_; conv => whnf)
      | (refine br_dec (fun _ => ?_) (fun _ => ?_) <;> first | (exfalso; omega) | contradiction | conv => whnf)
      | (refine br_not ?_; conv => whnf)
      | (refine br_bne (fun _ => ?_) (fun _ => ?_) <;> first | (exfalso; omega) | contradiction | conv => whnf)
      | (refine br_beq (fun _ => ?_) (fun _ => ?_) <;> first | (exfalso; omega) | contradiction | conv => whnf))
    · refine Pick.mk (inD (a[i]'(by omega))) (by rw [addN_eq, List.getElem?_map, show 0 + (i : Int).toNat = i by omega, over_get (by simp) (by omega)]; simp) ?_
      try (conv => whnf)
      repeat (first
        | (refine Need.mk ?_ ?_; (focus ((simp only [List.length_map, List.length_append, List.length_cons, List.length_nil, List.length_replicate]; omega))); conv => whnf)
        | (refine Pick.mk ?_ ?_ ?_; rotate_left; (focus (first | with_reducible exact set_inN _ _ _ _ | (refine wid ?_ ?_ <;> omega))); conv => whnf))
      refine Pick.mk (i + 1) (by constructor <;> first | omega | (simp only []; omega)) (LeX.of ?_)
      try (conv => whnf)
      repeat (refine Need.mk ?_ ?_; (focus (omega)); conv => whnf)
      refine Need.mk (by rw [← over_set (by simp) (by omega), markIs_get _ (by omega)]) ?_
      try (conv => whnf)
      trivial
    · refine Out.mk false [0, 1, 2, 3, 4] [] ?_
      try (conv => whnf)
      repeat (refine Need.mk ?_ ?_; (focus ((first | exact flat_by _ | exact flat_in _ | exact flat_st _ | exact flat_ts _ | exact flat_bo _ | exact flat_cl rfl))); conv => whnf)
      rw [over_end (by simp) (by omega)]
      exact ⟨by congr; omega, rfl⟩
theorem l_eqVector (a : List Int) (ha : a.length ≤ 2 ^ 39) : CallD Try.prog id_laws_eqVector [vV a, vV a] [] (vB true) [] := by
  refine F_laws_eqVector ?_
  try (conv => whnf)
  repeat (refine SeqJ.thru ?_; conv => whnf)
  refine Hand.mk [] ?_
  try (conv => whnf)
  refine CallW.d (l_eqIntS a a ha ha) ?_
  try (conv => whnf)
  try (conv => whnf)
  repeat' (first
    | (refine br_dec (fun _ => ?_) (fun _ => ?_) <;> first | (exfalso; omega) | contradiction | conv => whnf)
    | (refine br_not ?_; conv => whnf)
    | (refine br_bne (fun _ => ?_) (fun _ => ?_) <;> first | (exfalso; omega) | contradiction | conv => whnf)
    | (refine br_beq (fun _ => ?_) (fun _ => ?_) <;> first | (exfalso; omega) | contradiction | conv => whnf))
  refine Out.mk true [] [] ?_
  try (conv => whnf)
  exact ⟨rfl, rfl⟩
theorem l_eqStamp (t a : Int) : CallD Try.prog id_laws_eqStamp [vSt t a, vSt t a] [] (vB true) [] := by
  refine F_laws_eqStamp ?_
  try (conv => whnf)
  repeat' (first
    | (refine SeqJ.thru ?_; conv => whnf)
    | (refine br_dec (fun _ => ?_) (fun _ => ?_) <;> first | (exfalso; omega) | contradiction | conv => whnf)
    | (refine br_not ?_; conv => whnf)
    | (refine br_bne (fun _ => ?_) (fun _ => ?_) <;> first | (exfalso; omega) | contradiction | conv => whnf)
    | (refine br_beq (fun _ => ?_) (fun _ => ?_) <;> first | (exfalso; omega) | contradiction | conv => whnf))
  refine Out.mk true [] [] ?_
  try (conv => whnf)
  exact ⟨rfl, rfl⟩
theorem l_eqOp (o : OpV) (ha : o.deps.length ≤ 2 ^ 39) (hk : o.key.length ≤ 2 ^ 39) (ht : o.text.length ≤ 2 ^ 39) : CallD Try.prog id_laws_eqOp [vO o, vO o] [] (vB true) [] := by
  refine F_laws_eqOp ?_
  try (conv => whnf)
  repeat' (first
    | (refine SeqJ.thru ?_; conv => whnf)
    | (refine br_dec (fun _ => ?_) (fun _ => ?_) <;> first | (exfalso; omega) | contradiction | conv => whnf)
    | (refine br_not ?_; conv => whnf)
    | (refine br_bne (fun _ => ?_) (fun _ => ?_) <;> first | (exfalso; omega) | contradiction | conv => whnf)
    | (refine br_beq (fun _ => ?_) (fun _ => ?_) <;> first | (exfalso; omega) | contradiction | conv => whnf))
  refine Hand.mk [] ?_
  try (conv => whnf)
  refine CallW.d (l_eqVector o.deps ha) ?_
  try (conv => whnf)
  repeat (refine SeqJ.thru ?_; conv => whnf)
  try (conv => whnf)
  repeat' (first
    | (refine SeqJ.thru ?_; conv => whnf)
    | (refine br_dec (fun _ => ?_) (fun _ => ?_) <;> first | (exfalso; omega) | contradiction | conv => whnf)
    | (refine br_not ?_; conv => whnf)
    | (refine br_bne (fun _ => ?_) (fun _ => ?_) <;> first | (exfalso; omega) | contradiction | conv => whnf)
    | (refine br_beq (fun _ => ?_) (fun _ => ?_) <;> first | (exfalso; omega) | contradiction | conv => whnf))
  refine Hand.mk [] ?_
  try (conv => whnf)
  refine CallW.d (l_eqStamp o.atT o.atA) ?_
  try (conv => whnf)
  repeat (first
    | (refine Pick.mk ?_ ?_ ?_; rotate_left; (focus (exact bs_beq _ _)); conv => whnf)
    | (refine SeqJ.thru ?_; conv => whnf))
  try (conv => whnf)
  repeat' (first
    | (refine Pick.mk ?_ ?_ ?_; rotate_left; (focus (exact bs_beq _ _)); conv => whnf)
    | (refine SeqJ.thru ?_; conv => whnf)
    | (refine br_dec (fun _ => ?_) (fun _ => ?_) <;> first | (exfalso; omega) | contradiction | conv => whnf)
    | (refine br_not ?_; conv => whnf)
    | (refine br_bne (fun _ => ?_) (fun _ => ?_) <;> first | (exfalso; omega) | contradiction | conv => whnf)
    | (refine br_beq (fun _ => ?_) (fun _ => ?_) <;> first | (exfalso; omega) | contradiction | conv => whnf))
  refine Out.mk true [] [] ?_
  try (conv => whnf)
  exact ⟨rfl, rfl⟩
end Go.Proofs.Ytpdjehnlejjfmaa.D
/- What the laws do with logs: copied, counted, compared. -/
namespace Go.Proofs.Ytpdjehnlejjfmaa.D
open Go.RowKit
set_option maxRecDepth 100000
set_option maxHeartbeats 4000000
set_option linter.unusedVariables false
set_option linter.unusedSimpArgs false

abbrev vL (l : List OpV) : SV := .one (.dv (.sl (l.map oD)))
abbrev dJ (n : Int) : DV := .sc (.int .i64 n)
/-- An operation in a row, its vector its own. -/
def oO (o : OpV) : List DV := [dJ o.actor, dJ o.seq, dJ o.time, .ow 1 0 o.deps.length (o.deps.map inD), dJ o.kind, dJ o.obj, dJ o.n, dJ o.undo, dJ o.atT, dJ o.atA, .sc (.string (bs o.key)), .sc (.string (bs o.text))]
abbrev oZ : List DV := [dJ 0, dJ 0, dJ 0, .sl [], dJ 0, dJ 0, dJ 0, dJ 0, dJ 0, dJ 0, .sc (.string (bs [])), .sc (.string (bs []))]
theorem fz_op (o : OpV) : (oD o).map some = (oO o).map fzD := by
  simp only [oO, oD, fzD, List.map_cons, List.map_nil, List.drop_zero]
  rw [List.take_of_length_le (by simp)]
theorem fz_ops (l : List OpV) : Fz (l.map oO) (l.map oD) := Fz.map _ _ _ fz_op
theorem fz_oD (l : List OpV) : Fz (l.map oD) (l.map oD) := fz_self _ _ fun _ => rfl
theorem len_oD (l : List OpV) : ∀ e ∈ l.map oD, e.length = 12 := all_map _ _ _ fun _ => rfl
theorem sl_ops (l : List OpV) {n : Nat} (h : n = l.length) : SlF (l.map oO) 0 n (l.map oD) := SlF.full (by simpa using h) (fz_ops l)
theorem flat_oO (l : List OpV) : flatEs (l.map oO) := fun e he d hd => by
  obtain ⟨o, _, rfl⟩ := List.mem_map.1 he
  simp only [oO, List.mem_cons, List.not_mem_nil, or_false] at hd
  rcases hd with rfl | rfl | rfl | rfl | rfl | rfl | rfl | rfl | rfl | rfl | rfl | rfl <;> first | rfl | simp [flatD, List.all_map]
theorem l_toOpS (l : List OpV) (hl : l.length ≤ 2 ^ 30) (hd : ∀ o ∈ l, o.deps.length ≤ 2 ^ 39) : CallD Try.prog id_laws_toOpS [vL l] [] (.one (.os (.v 0) 12 0 l.length)) [.own 12 (l.map oO)] := by
  refine F_laws_toOpS ?_
  try (conv => whnf)
  repeat (first
    | (refine Need.mk ?_ ?_; (focus (omega)); conv => whnf)
    | (refine Pick.mk ?_ ?_ ?_; rotate_left; (focus (first | exact List.length_map _ | exact natlit _ | ((fail_if_success (show @Eq (Option _) _ _)); rfl))); conv => whnf))
  refine LoopE.mk (fun i : Nat => mk [(0, vL l), (3, .one (.os (.v 8224) 12 0 l.length)), (4, vI .i64 i)] [(8224, .own 12 (over (l.map oO) (List.replicate l.length oZ) i))]) (fun i => i ≤ l.length) (fun i => l.length - i) 0 (by omega) (LeX.of ?_) ?_
  · try (conv => whnf)
    repeat (refine Need.mk ?_ ?_; (focus (first | omega | (simp; done) | rfl)); conv => whnf)
    trivial
  · intro i hi
    try (conv => whnf)
    repeat' (first
      | (refine Pick.mk ?_ ?_ ?_; rotate_left; (focus (first | exact List.length_map _ | (refine pick_nat _ _ _ ?_; omega))); conv => whnf)
      | (refine SeqJ.thru ?_; conv => whnf)
      | (refine br_dec (fun _ => ?_) (fun _ => ?_) <;> first | (exfalso; omega) | contradiction | conv => whnf)
      | (refine br_not ?_; conv => whnf)
      | (refine br_bne (fun _ => ?_) (fun _ => ?_) <;> first | (exfalso; omega) | contradiction | conv => whnf)
      | (refine br_beq (fun _ => ?_) (fun _ => ?_) <;> first | (exfalso; omega) | contradiction | conv => whnf))
    · refine Hand.mk [] ?_
      try (conv => whnf)
      refine CallW.d (l_toOp (l[i]'(by omega)) (hd _ (List.getElem_mem _))) ?_
      try (conv => whnf)
      repeat (first
        | (refine Need.mk ?_ ?_; (focus (first | omega | (simp; done) | (first | exact fz_self _ _ (fun _ => rfl) | exact fz_pl rfl | (refine Fz.append ?_ ?_ <;> first | exact fz_self _ _ (fun _ => rfl) | exact fz_pl rfl) | (refine Fz.append (Fz.append ?_ ?_) ?_ <;> first | exact fz_self _ _ (fun _ => rfl) | exact fz_pl rfl)))); conv => whnf)
        | (refine OwnQ.mk true ?_; conv => whnf))
      refine Pick.mk oZ (by rw [addN_eq, show 0 + (i : Int).toNat = i by omega, over_get (by simp) (by simp; omega), List.getElem_replicate]) ?_
      try (conv => whnf)
      repeat (first
        | (refine Need.mk ?_ ?_; (focus ((simp only [List.length_map, List.length_append, List.length_cons, List.length_nil, List.length_replicate]; omega))); conv => whnf)
        | (refine Pick.mk ?_ ?_ ?_; rotate_left; (focus (first | (simp only [List.length_map, List.length_append, List.length_cons, List.length_nil, List.length_replicate, Nat.zero_add]; rfl) | (refine wid ?_ ?_ <;> omega))); conv => whnf))
      refine Pick.mk (i + 1) (by constructor <;> first | omega | (simp only []; omega)) (LeX.of ?_)
      try (conv => whnf)
      repeat (refine Need.mk ?_ ?_; (focus (first | omega | (simp; done))); conv => whnf)
      refine Need.mk (by rw [← over_set (by simp) (by simp; omega), addN_eq, show 0 + (i : Int).toNat = i by omega, List.getElem_map]; rfl) ?_
      try (conv => whnf)
      trivial
    · refine Out.mk false [0, 1, 2, 3, 4] [] ?_
      try (conv => whnf)
      have e := over_end (m := l.map oO) (t := List.replicate l.length oZ) (by simp) (j := i) (by simp; omega)
      refine Need.mk (by rw [e]; exact flat_oO l) ?_
      try (conv => whnf)
      exact ⟨rfl, by rw [e]⟩
/-- What a log's operations weigh. -/
def szOps : List OpV → Nat | [] => 0 | o :: l => (o.deps.length + o.key.length + o.text.length) + szOps l
theorem szOps_app (a b : List OpV) : szOps (a ++ b) = szOps a + szOps b := by
  induction a with
  | nil => simp [szOps]
  | cons o a ih => simp only [List.cons_append, szOps, ih]; omega
theorem szOps_take {l : List OpV} {i : Nat} (h : i < l.length) : szOps (l.take (i + 1)) = szOps (l.take i) + (l[i].deps.length + l[i].key.length + l[i].text.length) := by
  rw [List.take_succ_eq_append_getElem h, szOps_app]; simp [szOps]
theorem szOps_le {l : List OpV} (i : Nat) : szOps (l.take i) ≤ szOps l := by
  conv => rhs; rw [← List.take_append_drop i l, szOps_app]
  omega
theorem szOps_mem {l : List OpV} {o : OpV} (h : o ∈ l) : o.deps.length + o.key.length + o.text.length ≤ szOps l := by
  obtain ⟨i, hi, rfl⟩ := List.mem_iff_getElem.1 h
  have h1 := szOps_take hi
  have h2 := szOps_le (l := l) (i + 1)
  omega
theorem l_szOpS (l : List OpV) (left : Int) (hl : l.length ≤ 9223372036854775807) (hd : ∀ o ∈ l, o.deps.length ≤ 9223372036854775807 ∧ o.key.length ≤ 9223372036854775807 ∧ o.text.length ≤ 9223372036854775807) (h0 : 0 ≤ left) (h1 : left ≤ 2 ^ 40) :
    CallD Try.prog id_laws_szOpS [vL l, vI .i64 left] [] (vI .i64 (szL left (l.length + szOps l))) [] := by
  refine F_laws_szOpS ?_
  try (conv => whnf)
  repeat' (first
    | (refine Pick.mk ?_ ?_ ?_; rotate_left; (focus (first | exact List.length_map _ | (refine wid ?_ ?_ <;> omega))); conv => whnf)
    | (refine SeqJ.thru ?_; conv => whnf)
    | (refine br_dec (fun _ => ?_) (fun _ => ?_) <;> first | (exfalso; omega) | contradiction | conv => whnf)
    | (refine br_not ?_; conv => whnf)
    | (refine br_bne (fun _ => ?_) (fun _ => ?_) <;> first | (exfalso; omega) | contradiction | conv => whnf)
    | (refine br_beq (fun _ => ?_) (fun _ => ?_) <;> first | (exfalso; omega) | contradiction | conv => whnf))
  · refine Out.mk true [] [] ?_
    try (conv => whnf)
    exact ⟨by rw [szL, if_pos (by omega)], rfl⟩
  · rename_i hle
    refine LoopE.mk (fun i : Nat => mk [(0, vL l), (1, vI .i64 (left - l.length - szOps (l.take i))), (5, vI .i64 i)] []) (fun i => i ≤ l.length ∧ (l.length : Int) + szOps (l.take i) ≤ left) (fun i => l.length - i) 0 ⟨by omega, by simp [szOps]; omega⟩ (LeX.of ?_) ?_
    · try (conv => whnf)
      repeat (refine Need.mk ?_ ?_; (focus (first | omega | (simp; done) | (simp [szOps]; done))); conv => whnf)
      trivial
    · rintro i ⟨hi, hs⟩
      try (conv => whnf)
      repeat' (first
        | (refine Pick.mk ?_ ?_ ?_; rotate_left; (focus (first | exact List.length_map _ | (refine pick_nat _ _ _ ?_; omega))); conv => whnf)
        | (refine SeqJ.thru ?_; conv => whnf)
        | (refine br_dec (fun _ => ?_) (fun _ => ?_) <;> first | (exfalso; omega) | contradiction | conv => whnf)
        | (refine br_not ?_; conv => whnf)
        | (refine br_bne (fun _ => ?_) (fun _ => ?_) <;> first | (exfalso; omega) | contradiction | conv => whnf)
        | (refine br_beq (fun _ => ?_) (fun _ => ?_) <;> first | (exfalso; omega) | contradiction | conv => whnf))
      · obtain ⟨d1, d2, d3⟩ := hd (l[i]'(by omega)) (List.getElem_mem _)
        refine Hand.mk [] ?_
        try (conv => whnf)
        refine CallW.d (l_szOp (l[i]'(by omega)) (left - l.length - szOps (l.take i)) d1 d2 d3 (by omega) (by omega)) ?_
        try (conv => whnf)
        have hstep := szOps_take (l := l) (i := i) (by omega)
        have hsle := szOps_le (l := l) (i + 1)
        by_cases hw : left - l.length - szOps (l.take i) < ((l[i]'(by omega)).deps.length + (l[i]'(by omega)).key.length + (l[i]'(by omega)).text.length : Nat)
        · rw [show szL (left - l.length - szOps (l.take i)) ((l[i]'(by omega)).deps.length + (l[i]'(by omega)).key.length + (l[i]'(by omega)).text.length) = -1 from if_pos hw]
          try (conv => whnf)
          repeat' (first
            | (refine br_dec (fun _ => ?_) (fun _ => ?_) <;> first | (exfalso; omega) | contradiction | conv => whnf)
            | (refine br_not ?_; conv => whnf)
            | (refine br_bne (fun _ => ?_) (fun _ => ?_) <;> first | (exfalso; omega) | contradiction | conv => whnf)
            | (refine br_beq (fun _ => ?_) (fun _ => ?_) <;> first | (exfalso; omega) | contradiction | conv => whnf))
          refine Out.mk true [] [] ?_
          try (conv => whnf)
          exact ⟨by rw [szL, if_pos (by push_cast; omega)], rfl⟩
        · rw [show szL (left - l.length - szOps (l.take i)) ((l[i]'(by omega)).deps.length + (l[i]'(by omega)).key.length + (l[i]'(by omega)).text.length) = left - l.length - szOps (l.take i) - ((l[i]'(by omega)).deps.length + (l[i]'(by omega)).key.length + (l[i]'(by omega)).text.length : Nat) from if_neg hw]
          try (conv => whnf)
          repeat' (first
            | (refine Pick.mk ?_ ?_ ?_; rotate_left; (focus ((refine wid ?_ ?_ <;> omega))); conv => whnf)
            | (refine br_dec (fun _ => ?_) (fun _ => ?_) <;> first | (exfalso; omega) | contradiction | conv => whnf)
            | (refine br_not ?_; conv => whnf)
            | (refine br_bne (fun _ => ?_) (fun _ => ?_) <;> first | (exfalso; omega) | contradiction | conv => whnf)
            | (refine br_beq (fun _ => ?_) (fun _ => ?_) <;> first | (exfalso; omega) | contradiction | conv => whnf))
          refine Pick.mk (i + 1) ⟨⟨by omega, by rw [hstep]; push_cast; omega⟩, by omega⟩ (LeX.of ?_)
          try (conv => whnf)
          repeat (refine Need.mk ?_ ?_; (focus (first | omega | (simp; done))); conv => whnf)
          trivial
      · refine Out.mk true [] [] ?_
        try (conv => whnf)
        have : l.take i = l := List.take_of_length_le (by omega)
        rw [this] at hs ⊢
        exact ⟨by rw [szL, if_neg (by push_cast; omega)]; exact vI_ext (by push_cast; omega), rfl⟩
theorem l_eqOpS (l : List OpV) (hl : l.length ≤ 2 ^ 39) (hd : ∀ o ∈ l, o.deps.length ≤ 2 ^ 39 ∧ o.key.length ≤ 2 ^ 39 ∧ o.text.length ≤ 2 ^ 39) : CallD Try.prog id_laws_eqOpS [vL l, vL l] [] (vB true) [] := by
  refine F_laws_eqOpS ?_
  try (conv => whnf)
  repeat' (first
    | (refine Pick.mk ?_ ?_ ?_; rotate_left; (focus (exact List.length_map _)); conv => whnf)
    | (refine SeqJ.thru ?_; conv => whnf)
    | (refine br_dec (fun _ => ?_) (fun _ => ?_) <;> first | (exfalso; omega) | contradiction | conv => whnf)
    | (refine br_not ?_; conv => whnf)
    | (refine br_bne (fun _ => ?_) (fun _ => ?_) <;> first | (exfalso; omega) | contradiction | conv => whnf)
    | (refine br_beq (fun _ => ?_) (fun _ => ?_) <;> first | (exfalso; omega) | contradiction | conv => whnf))
  refine LoopE.mk (fun i : Nat => mk [(0, vL l), (1, vL l), (5, vI .i64 i)] []) (fun i => i ≤ l.length) (fun i => l.length - i) 0 (by omega) (LeX.of ?_) ?_
  · try (conv => whnf)
    repeat (refine Need.mk ?_ ?_; (focus (first | omega | (simp; done))); conv => whnf)
    trivial
  · intro i hi
    try (conv => whnf)
    repeat' (first
      | (refine Pick.mk ?_ ?_ ?_; rotate_left; (focus (first | exact List.length_map _ | (refine pick_nat _ _ _ ?_; omega))); conv => whnf)
      | (refine SeqJ.thru ?_; conv => whnf)
      | (refine br_dec (fun _ => ?_) (fun _ => ?_) <;> first | (exfalso; omega) | contradiction | conv => whnf)
      | (refine br_not ?_; conv => whnf)
      | (refine br_bne (fun _ => ?_) (fun _ => ?_) <;> first | (exfalso; omega) | contradiction | conv => whnf)
      | (refine br_beq (fun _ => ?_) (fun _ => ?_) <;> first | (exfalso; omega) | contradiction | conv => whnf))
    · obtain ⟨d1, d2, d3⟩ := hd (l[i]'(by omega)) (List.getElem_mem _)
      refine Hand.mk [] ?_
      try (conv => whnf)
      refine CallW.d (l_eqOp (l[i]'(by omega)) d1 d2 d3) ?_
      try (conv => whnf)
      repeat (refine Pick.mk ?_ ?_ ?_; rotate_left; (focus ((refine wid ?_ ?_ <;> omega))); conv => whnf)
      try (conv => whnf)
      repeat' (first
        | (refine br_dec (fun _ => ?_) (fun _ => ?_) <;> first | (exfalso; omega) | contradiction | conv => whnf)
        | (refine br_not ?_; conv => whnf)
        | (refine br_bne (fun _ => ?_) (fun _ => ?_) <;> first | (exfalso; omega) | contradiction | conv => whnf)
        | (refine br_beq (fun _ => ?_) (fun _ => ?_) <;> first | (exfalso; omega) | contradiction | conv => whnf))
      refine Pick.mk (i + 1) (by constructor <;> first | omega | (simp only []; omega)) (LeX.of ?_)
      try (conv => whnf)
      repeat (refine Need.mk ?_ ?_; (focus (first | omega | (simp; done))); conv => whnf)
      trivial
    · refine Out.mk true [] [] ?_
      try (conv => whnf)
      exact ⟨rfl, rfl⟩
end Go.Proofs.Ytpdjehnlejjfmaa.D
/- The reference's telling whether a log is in order. -/
namespace Go.Proofs.Ytpdjehnlejjfmaa.D
open Go.RowKit
set_option maxRecDepth 100000
set_option maxHeartbeats 4000000
set_option linter.unusedVariables false
set_option linter.unusedSimpArgs false

theorem Good1.take {l : List OpV} {i : Nat} (h : Good1 l i) (hi : i ≤ l.length) : Good1 (l.take i) (l.take i).length := fun j hj hlt => by
  simp only [List.length_take] at hj
  obtain ⟨h1, h2, h3⟩ := h j (by omega) (by omega)
  simp only [List.getElem_take, List.take_take, show min j i = j by omega]
  exact ⟨h1, h2, h3⟩
theorem own_none {l : List OpV} {i : Nat} (h : Good1 l i) (hi : i ≤ l.length) (h0 : 0 < i) {a : Int} (ha : (l[i - 1]'(by omega)).actor < a) : own (l.take i) a = [] := by
  rw [own, List.filter_eq_nil_iff]
  intro o ho
  obtain ⟨j, hj, rfl⟩ := List.mem_iff_getElem.1 ho
  have hs := (h.take hi).sorted
  rw [List.pairwise_iff_getElem] at hs
  have hj' : j < i := by simp at hj; omega
  rcases Nat.lt_or_ge j (i - 1) with g | g
  · have := hs j (i - 1) hj (by simp; omega) g
    simp only [List.getElem_take] at this ⊢
    simp; omega
  · obtain rfl : j = i - 1 := by omega
    simp only [List.getElem_take]
    simp; omega
theorem seqStep {l : List OpV} {i : Nat} (hi : i < l.length) (h : Good1 l i) : ((0 < i → (l[i - 1]'(by omega)).actor ≤ l[i].actor) ∧ l[i].seq = (own (l.take i) l[i].actor).length + 1) ↔
    (i = 0 ∧ l[i].seq = 1) ∨ (0 < i ∧ l[i].actor = (l[i - 1]'(by omega)).actor ∧ l[i].seq = (l[i - 1]'(by omega)).seq + 1) ∨ (0 < i ∧ (l[i - 1]'(by omega)).actor < l[i].actor ∧ l[i].seq = 1) := by
  rcases Nat.eq_zero_or_pos i with rfl | h0
  · simp [own]
  · have hp : i - 1 < l.length := by omega
    have h1 := (h (i - 1) hp (by omega)).2.2
    have e : own (l.take i) (l[i - 1]).actor = own (l.take (i - 1)) (l[i - 1]).actor ++ [l[i - 1]] := by
      have := own_take hp (l[i - 1]).actor
      rw [if_pos rfl, show i - 1 + 1 = i by omega] at this
      exact this
    rcases Int.lt_trichotomy (l[i - 1]).actor l[i].actor with g | g | g
    · rw [own_none h (by omega) h0 g]
      constructor
      · rintro ⟨_, h2⟩; exact .inr (.inr ⟨h0, g, by simpa using h2⟩)
      · rintro (⟨h2, _⟩ | ⟨_, h2, _⟩ | ⟨_, _, h2⟩)
        · omega
        · omega
        · exact ⟨fun _ => by omega, by simpa using h2⟩
    · rw [← g, e]
      simp only [List.length_append, List.length_singleton]
      constructor
      · rintro ⟨_, h2⟩; exact .inr (.inl ⟨h0, by simp, by push_cast at h2; omega⟩)
      · rintro (⟨h2, _⟩ | ⟨_, _, h2⟩ | ⟨_, h2, _⟩)
        · omega
        · exact ⟨fun _ => by omega, by push_cast; omega⟩
        · omega
    · constructor
      · rintro ⟨h2, _⟩; have := h2 h0; omega
      · rintro (⟨h2, _⟩ | ⟨_, h2, _⟩ | ⟨_, h2, _⟩) <;> omega
theorem s_l02New : CallD Try.prog id_spec_l02New [] [] (.agg [.os (.v 0) 1 0 16]) [.own 1 ((List.replicate 16 (0 : Int)).map inD)] := by
  refine F_spec_l02New ?_
  try (conv => whnf)
  repeat (first
    | (refine Need.mk ?_ ?_; (focus (omega)); conv => whnf)
    | (refine Pick.mk ?_ ?_ ?_; rotate_left; (focus (first | (simp only [List.length_map, List.length_append, List.length_cons, List.length_nil, List.length_replicate, Nat.zero_add]; rfl) | exact natlit _)); conv => whnf))
  refine Out.mk false [0, 1, 2, 3, 4] [] ?_
  try (conv => whnf)
  repeat (refine Need.mk ?_ ?_; (focus ((first | exact flat_by _ | exact flat_in _ | exact flat_st _ | exact flat_ts _ | exact flat_bo _ | exact flat_cl rfl))); conv => whnf)
  exact ⟨rfl, rfl⟩
theorem s_l08Counts (l : List OpV) (hl : ∀ o ∈ l, actOk o.actor) (hle : l.length ≤ 2 ^ 40) : CallD Try.prog id_spec_l08Counts [vL l] [] (.agg [.os (.v 0) 1 0 16]) [.own 1 ((cnts l).map inD)] := by
  refine F_spec_l08Counts ?_
  try (conv => whnf)
  refine Hand.mk [] ?_
  try (conv => whnf)
  refine CallW.d (s_l02New) ?_
  try (conv => whnf)
  refine LoopE.mk (fun i : Nat => mk [(0, vL l), (2, .one (.ptr 4096 0)), (3, .one (.ptr 8208 0)), (4, vI .i64 i)] [(4096, .box [.nil]), (8208, .box [.os (.v 8192) 1 0 16]), (8192, .own 1 ((cnts (l.take i)).map inD))])
    (fun i => i ≤ l.length) (fun i => l.length - i) 0 (by omega) (LeX.of ?_) ?_
  · try (conv => whnf)
    repeat (refine Need.mk ?_ ?_; (focus (first | omega | (simp; done) | rfl)); conv => whnf)
    trivial
  · intro i hi
    try (conv => whnf)
    repeat' (first
      | (refine Pick.mk ?_ ?_ ?_; rotate_left; (focus (first | exact List.length_map _ | (refine pick_nat _ _ _ ?_; omega))); conv => whnf)
      | (refine SeqJ.thru ?_; conv => whnf)
      | (refine br_dec (fun _ => ?_) (fun _ => ?_) <;> first | (exfalso; omega) | contradiction | conv => whnf)
      | (refine br_not ?_; conv => whnf)
      | (refine br_bne (fun _ => ?_) (fun _ => ?_) <;> first | (exfalso; omega) | contradiction | conv => whnf)
      | (refine br_beq (fun _ => ?_) (fun _ => ?_) <;> first | (exfalso; omega) | contradiction | conv => whnf))
    · have hlt : i < l.length := by omega
      obtain ⟨a0, a1⟩ := hl _ (List.getElem_mem hlt)
      have hcn := cnts_get (l.take i) (a := l[i].actor.toNat) (by omega)
      rw [show ((l[i].actor.toNat : Nat) : Int) = l[i].actor by omega] at hcn
      have hle2 := own_le (l.take i) l[i].actor
      simp only [List.length_take] at hle2
      try (conv => whnf)
      repeat (first
        | (refine Need.mk ?_ ?_; (focus (first | omega | (simp only [List.length_map, List.length_append, List.length_cons, List.length_nil, List.length_replicate]; omega))); conv => whnf)
        | (refine Pick.mk ?_ ?_ ?_; rotate_left; (focus (first | with_reducible exact set_inI _ _ _ _ | (with_reducible refine get_mapI _ _ _ ?_ ?_ <;> first | omega | (simp; omega)) | (refine wid ?_ ?_ <;> omega))); conv => whnf))
      refine Pick.mk (i + 1) (by constructor <;> first | omega | (simp only []; omega)) (LeX.of ?_)
      try (conv => whnf)
      repeat (refine Need.mk ?_ ?_; (focus (first | omega | (simp; done))); conv => whnf)
      refine Need.mk (by rw [hcn, cnts_set hlt ⟨a0, a1⟩]) ?_
      try (conv => whnf)
      trivial
    · refine Out.mk false [0, 1, 2, 3, 4] [] ?_
      try (conv => whnf)
      repeat (refine Need.mk ?_ ?_; (focus ((first | exact flat_by _ | exact flat_in _ | exact flat_st _ | exact flat_ts _ | exact flat_bo _ | exact flat_cl rfl))); conv => whnf)
      exact ⟨rfl, by rw [List.take_of_length_le (by omega)]⟩
theorem s_l08Find (l p m q : List OpV) (a n : Int) (hl : l = p ++ m ++ q) (hp : ∀ o ∈ p, o.actor ≠ a) (hm : ∀ o ∈ m, o.actor = a) (h1 : 1 ≤ n) (h2 : n ≤ m.length) (hle : l.length ≤ 2 ^ 40) :
    CallD Try.prog id_spec_l08Find [vL l, vI .i64 a, vI .i64 n] [] (vI .i64 (p.length + n - 1)) [] := by
  refine F_spec_l08Find ?_
  have hL : l.length = p.length + m.length + q.length := by rw [hl]; simp only [List.length_append]
  try (conv => whnf)
  refine LoopE.mk (fun i : Nat => mk [(0, vL l), (1, vI .i64 a), (2, vI .i64 n), (7, vI .i64 i)] []) (fun i => i ≤ p.length) (fun i => p.length - i) 0 (by omega) (LeX.of ?_) ?_
  · try (conv => whnf)
    repeat (refine Need.mk ?_ ?_; (focus (first | omega | (simp; done))); conv => whnf)
    trivial
  · intro i hi
    have hat : i < l.length := by omega
    rcases Nat.lt_or_ge i p.length with g | g
    · have hne : l[i].actor ≠ a := by
        have e : l[i] = p[i] := by simp only [hl]; rw [List.getElem_append_left (by simp; omega), List.getElem_append_left g]
        rw [e]; exact hp _ (List.getElem_mem g)
      try (conv => whnf)
      repeat' (first
        | (refine Pick.mk ?_ ?_ ?_; rotate_left; (focus (first | exact List.length_map _ | (refine wid ?_ ?_ <;> omega) | (refine pick_nat _ _ _ ?_; omega))); conv => whnf)
        | (refine SeqJ.thru ?_; conv => whnf)
        | (refine br_dec (fun _ => ?_) (fun _ => ?_) <;> first | (exfalso; omega) | contradiction | conv => whnf)
        | (refine br_not ?_; conv => whnf)
        | (refine br_bne (fun _ => ?_) (fun _ => ?_) <;> first | (exfalso; omega) | contradiction | conv => whnf)
        | (refine br_beq (fun _ => ?_) (fun _ => ?_) <;> first | (exfalso; omega) | contradiction | conv => whnf))
      refine Pick.mk (i + 1) (by constructor <;> first | omega | (simp only []; omega)) (LeX.of ?_)
      try (conv => whnf)
      repeat (refine Need.mk ?_ ?_; (focus (first | omega | (simp; done))); conv => whnf)
      trivial
    · obtain rfl : i = p.length := by omega
      have heq : l[p.length].actor = a := by
        have e : l[p.length] = m[0] := by simp only [hl]; rw [List.getElem_append_left (by simp; omega), List.getElem_append_right (by omega)]; simp
        rw [e]; exact hm _ (List.getElem_mem _)
      have heq2 : (l[((p.length : Int) + n - 1).toNat]'(by omega)).actor = a := by
        have e : l[((p.length : Int) + n - 1).toNat]'(by omega) = m[(n - 1).toNat]'(by omega) := by
          simp only [hl]
          rw [List.getElem_append_left (by simp; omega), List.getElem_append_right (by omega)]
          congr 1; omega
        rw [e]; exact hm _ (List.getElem_mem _)
      try (conv => whnf)
      repeat' (first
        | (refine Pick.mk ?_ ?_ ?_; rotate_left; (focus (first | exact List.length_map _ | (refine wid ?_ ?_ <;> omega) | (refine pick_nat _ _ _ ?_; omega) | (refine pick_int _ _ _ ?_ ?_ <;> omega))); conv => whnf)
        | (refine SeqJ.thru ?_; conv => whnf)
        | (refine br_dec (fun _ => ?_) (fun _ => ?_) <;> first | (exfalso; omega) | contradiction | conv => whnf)
        | (refine br_not ?_; conv => whnf)
        | (refine br_bne (fun _ => ?_) (fun _ => ?_) <;> first | (exfalso; omega) | contradiction | conv => whnf)
        | (refine br_beq (fun _ => ?_) (fun _ => ?_) <;> first | (exfalso; omega) | contradiction | conv => whnf))
      all_goals
        refine Out.mk true [] [] ?_
        try (conv => whnf)
      all_goals exact ⟨rfl, rfl⟩
theorem s_l08Thing (k : Int) : CallD Try.prog id_spec_l08Thing [vI .i64 k] [] (vI .i64 (thS k)) [] := by
  refine F_spec_l08Thing ?_
  try (conv => whnf)
  repeat' (first
    | (refine SeqJ.thru ?_; conv => whnf)
    | (refine br_dec (fun _ => ?_) (fun _ => ?_) <;> first | (exfalso; omega) | contradiction | conv => whnf)
    | (refine br_not ?_; conv => whnf)
    | (refine br_bne (fun _ => ?_) (fun _ => ?_) <;> first | (exfalso; omega) | contradiction | conv => whnf)
    | (refine br_beq (fun _ => ?_) (fun _ => ?_) <;> first | (exfalso; omega) | contradiction | conv => whnf))
  all_goals
    refine Out.mk true [] [] ?_
    try (conv => whnf)
  all_goals exact ⟨by simp only [thS]; split <;> (try split) <;> first | rfl | omega, rfl⟩
theorem own_find {l : List OpV} (h : l.Pairwise (fun x y => x.actor ≤ y.actor)) (a n : Int) (h1 : 1 ≤ n) (h2 : n ≤ (own l a).length) :
    ∃ p q, l = p ++ own l a ++ q ∧ (∀ o ∈ p, o.actor ≠ a) ∧ (∀ o ∈ own l a, o.actor = a) ∧ ∀ hlt : ((p.length : Int) + n - 1).toNat < l.length, (own l a)[(n - 1).toNat]? = some l[((p.length : Int) + n - 1).toNat] := by
  obtain ⟨p, q, e, hp, hq⟩ := split_own l a h
  refine ⟨p, q, e, fun o ho => by have := hp o ho; omega, fun o ho => by simpa using (List.mem_filter.1 ho).2, fun hlt => ?_⟩
  rw [← List.getElem?_eq_getElem hlt]
  conv => rhs; rw [e]
  rw [List.append_assoc, List.getElem?_append_right (by omega), List.getElem?_append_left (by omega)]
  congr 1; omega
theorem s_l08Causes (l : List OpV) (o : OpV) (hg : Good1 l l.length) (ho : OpOk o) (hle : l.length ≤ 2 ^ 40) : CallD Try.prog id_spec_l08Causes [vL l, vV (cnts l), vO o] [] (vB (decide (Cause l o))) [] := by
  refine F_spec_l08Causes ?_
  have hvl := ho.vec.1
  try (conv => whnf)
  refine LoopE.mk (fun a : Nat => mk [(0, vL l), (7, vI .i64 a), (4, .one (.ptr 4096 0)), (5, .one (.ptr 4112 0))] [(4096, .box [cN (cnts l)]), (4112, .box (opC o))]) (fun a => a ≤ 16 ∧ ∀ b : Nat, b < a → CauseAt l o b) (fun a => 16 - a) 0 ⟨by omega, fun b h => by omega⟩ (LeX.of ?_) ?_
  · try (conv => whnf)
    repeat (refine Need.mk ?_ ?_; (focus (first | omega | (simp; done))); conv => whnf)
    trivial
  · rintro a ⟨ha, hca⟩
    by_cases ha16 : a < 16
    · have hcn := cnts_get l ha16
      have hcl := cnts_length l
      have e3 : o.deps.getD a 0 = o.deps[a] := by simp [List.getD, show a < o.deps.length by omega]
      obtain ⟨c0, c1⟩ := ho.vec.2 _ (List.getElem_mem (show a < o.deps.length by omega))
      have step : CauseAt l o a → ∀ b : Nat, b < a + 1 → CauseAt l o b := fun h b hb => by
        rcases Nat.lt_or_ge b a with g | g
        · exact hca b g
        · obtain rfl : b = a := by omega
          exact h
      try (conv => whnf)
      repeat' (first
        | (refine Need.mk ?_ ?_; (focus (((conv => whnf); (repeat (first | (refine Need.mk (by first | rfl | omega | (simp; done)) ?_; conv => whnf) | (refine Pick.mk ?_ ?_ ?_; rotate_left; (focus (first | with_reducible exact xor_u8 _ _ | (with_reducible refine xor_i64 ?_ ?_; all_goals omega) | (with_reducible refine xor_u32 ?_ ?_; all_goals omega) | assumption | with_reducible exact set_byN _ _ _ _ | with_reducible exact set_byI _ _ _ _ | with_reducible exact set_inN _ _ _ _ | with_reducible exact set_inI _ _ _ _ | with_reducible exact set_stN _ _ _ _ | with_reducible exact set_tsN _ _ _ _ | with_reducible exact set_tsI _ _ _ _ | with_reducible exact set_boN _ _ _ _ | with_reducible exact set_boI _ _ _ _ | (with_reducible refine get_mapN _ _ _ ?_; first | omega | (simp; omega)) | (with_reducible refine get_mapI _ _ _ ?_ ?_ <;> first | omega | (simp; omega)) | exact bs_beq _ _ | exact bs_less _ _ | exact bs_leq _ _ | with_reducible exact bs_app _ _ | (refine bs_get _ _ ?_; omega) | (refine bs_int _ _ ?_ ?_ <;> omega) | with_reducible exact sl_map0 _ _ _ | with_reducible exact sl_mapN _ _ _ | with_reducible exact sl_map _ _ _ _ | exact bs_extract0 _ _ | exact bs_extractN _ _ | exact bs_extract _ _ _ | (refine bnd_id ?_; omega) | (refine bnd_sub ?_ ?_ <;> omega) | (refine bnd_add ?_; omega) | (refine bnd_subN ?_ ?_ <;> omega) | (refine bnd_int ?_ ?_ <;> omega) | ((show @Eq Nat (_ + Int.toNat _ * _) _); simp only [Int.toNat_natCast, Nat.zero_add, Nat.mul_one]; rfl) | ((show @Eq (List _) (List.set [_] _ _) _); simp only [List.set_cons_zero]; rfl) | exact List.length_map _ | exact size_bs _ | (simp only [List.length_map, List.length_append, List.length_cons, List.length_nil, List.length_replicate, Nat.zero_add]; rfl) | with_reducible exact List.nil_append _ | with_reducible exact map_app _ _ _ | exact map_snoc byD _ _ | exact map_snoc inD _ _ | exact map_snoc stD _ _ | exact map_snoc tsD _ _ | (simp only [chunks]; rfl) | (refine wid ?_ ?_ <;> omega) | exact wby _ | with_reducible exact wby32 _ | with_reducible exact wu32 _ | exact wby64 _ | exact shr8 _ | exact shr16 _ | exact shr24 _ | exact shr32 _ | (refine tmodn ?_; omega) | (refine wdiv ?_ ?_ ?_ <;> omega) | exact wbyte _ | exact natlit _ | exact rep_by _ | exact rep_in _ | exact rep_bo _ | exact rep_st _ | (refine pick_nat _ _ _ ?_; omega) | (refine pick_int _ _ _ ?_ ?_ <;> omega) | (refine SlOf.full ?_; first | (simp; done) | (simp; omega)) | (with_reducible refine SlOf.pre _ _ ?_; first | omega | (simp; omega)) | (refine SlF.self _ _ ?_ ?_; (first | rfl | omega | (simp; done) | (simp; omega)); (exact fun _ => rfl)) | (refine SlF.pre _ _ ?_ ?_; (first | omega | (simp; omega)); (exact fun _ => rfl)) | (refine SlF.same ?_ ?_; (first | rfl | omega | (simp; done) | (simp; omega)); (first | exact fz_self _ _ (fun _ => rfl) | exact fz_pl rfl | (refine Fz.append ?_ ?_ <;> first | exact fz_self _ _ (fun _ => rfl) | exact fz_pl rfl) | (refine Fz.append (Fz.append ?_ ?_) ?_ <;> first | exact fz_self _ _ (fun _ => rfl) | exact fz_pl rfl))) | (simp only [Int.toNat_natCast, Nat.zero_add, Nat.mul_one]; rfl) | ((fail_if_success (show @Eq (Option _) _ _)); rfl) | ((show @Eq (Option _) _ _); simp only [List.getElem?_cons_zero, List.getElem?_cons_succ]; done) | ((show @Eq (Option _) _ _); simp only [List.getElem?_cons_zero, List.getElem?_cons_succ]; rfl) | with_reducible rfl)); conv => whnf))); exact Done.mk trivial))); conv => whnf)
        | (refine Pick.mk ?_ ?_ ?_; rotate_left; (focus (first | (refine wid ?_ ?_ <;> omega) | (refine pick_nat _ _ _ ?_; omega))); conv => whnf)
        | (refine SeqJ.thru ?_; conv => whnf)
        | (refine br_dec (fun _ => ?_) (fun _ => ?_) <;> first | (exfalso; omega) | contradiction | conv => whnf)
        | (refine br_not ?_; conv => whnf)
        | (refine br_bne (fun _ => ?_) (fun _ => ?_) <;> first | (exfalso; omega) | contradiction | conv => whnf)
        | (refine br_beq (fun _ => ?_) (fun _ => ?_) <;> first | (exfalso; omega) | contradiction | conv => whnf))
      · refine Out.mk true [] [] ?_
        try (conv => whnf)
        exact ⟨dec_f fun h => by have := (h a ha16).1; rw [e3] at this; omega, rfl⟩
      · obtain ⟨p, q, e, hp, hm, hat⟩ := own_find hg.sorted a o.deps[a] (by omega) (by omega)
        have hL : l.length = p.length + (own l a).length + q.length := by conv => lhs; rw [e]
                                                                          simp only [List.length_append]
        have e4 := hat (by omega)
        refine Hand.mk [] ?_
        try (conv => whnf)
        refine CallW.d (s_l08Find l p (own l a) q a o.deps[a] e hp hm (by omega) (by omega) hle) ?_
        try (conv => whnf)
        repeat (first
          | (refine Need.mk ?_ ?_; (focus (((conv => whnf); (repeat (first | (refine Need.mk (by first | rfl | omega | (simp; done)) ?_; conv => whnf) | (refine Pick.mk ?_ ?_ ?_; rotate_left; (focus (first | with_reducible exact xor_u8 _ _ | (with_reducible refine xor_i64 ?_ ?_; all_goals omega) | (with_reducible refine xor_u32 ?_ ?_; all_goals omega) | assumption | with_reducible exact set_byN _ _ _ _ | with_reducible exact set_byI _ _ _ _ | with_reducible exact set_inN _ _ _ _ | with_reducible exact set_inI _ _ _ _ | with_reducible exact set_stN _ _ _ _ | with_reducible exact set_tsN _ _ _ _ | with_reducible exact set_tsI _ _ _ _ | with_reducible exact set_boN _ _ _ _ | with_reducible exact set_boI _ _ _ _ | (with_reducible refine get_mapN _ _ _ ?_; first | omega | (simp; omega)) | (with_reducible refine get_mapI _ _ _ ?_ ?_ <;> first | omega | (simp; omega)) | exact bs_beq _ _ | exact bs_less _ _ | exact bs_leq _ _ | with_reducible exact bs_app _ _ | (refine bs_get _ _ ?_; omega) | (refine bs_int _ _ ?_ ?_ <;> omega) | with_reducible exact sl_map0 _ _ _ | with_reducible exact sl_mapN _ _ _ | with_reducible exact sl_map _ _ _ _ | exact bs_extract0 _ _ | exact bs_extractN _ _ | exact bs_extract _ _ _ | (refine bnd_id ?_; omega) | (refine bnd_sub ?_ ?_ <;> omega) | (refine bnd_add ?_; omega) | (refine bnd_subN ?_ ?_ <;> omega) | (refine bnd_int ?_ ?_ <;> omega) | ((show @Eq Nat (_ + Int.toNat _ * _) _); simp only [Int.toNat_natCast, Nat.zero_add, Nat.mul_one]; rfl) | ((show @Eq (List _) (List.set [_] _ _) _); simp only [List.set_cons_zero]; rfl) | exact List.length_map _ | exact size_bs _ | (simp only [List.length_map, List.length_append, List.length_cons, List.length_nil, List.length_replicate, Nat.zero_add]; rfl) | with_reducible exact List.nil_append _ | with_reducible exact map_app _ _ _ | exact map_snoc byD _ _ | exact map_snoc inD _ _ | exact map_snoc stD _ _ | exact map_snoc tsD _ _ | (simp only [chunks]; rfl) | (refine wid ?_ ?_ <;> omega) | exact wby _ | with_reducible exact wby32 _ | with_reducible exact wu32 _ | exact wby64 _ | exact shr8 _ | exact shr16 _ | exact shr24 _ | exact shr32 _ | (refine tmodn ?_; omega) | (refine wdiv ?_ ?_ ?_ <;> omega) | exact wbyte _ | exact natlit _ | exact rep_by _ | exact rep_in _ | exact rep_bo _ | exact rep_st _ | (refine pick_nat _ _ _ ?_; omega) | (refine pick_int _ _ _ ?_ ?_ <;> omega) | (refine SlOf.full ?_; first | (simp; done) | (simp; omega)) | (with_reducible refine SlOf.pre _ _ ?_; first | omega | (simp; omega)) | (refine SlF.self _ _ ?_ ?_; (first | rfl | omega | (simp; done) | (simp; omega)); (exact fun _ => rfl)) | (refine SlF.pre _ _ ?_ ?_; (first | omega | (simp; omega)); (exact fun _ => rfl)) | (refine SlF.same ?_ ?_; (first | rfl | omega | (simp; done) | (simp; omega)); (first | exact fz_self _ _ (fun _ => rfl) | exact fz_pl rfl | (refine Fz.append ?_ ?_ <;> first | exact fz_self _ _ (fun _ => rfl) | exact fz_pl rfl) | (refine Fz.append (Fz.append ?_ ?_) ?_ <;> first | exact fz_self _ _ (fun _ => rfl) | exact fz_pl rfl))) | (simp only [Int.toNat_natCast, Nat.zero_add, Nat.mul_one]; rfl) | ((fail_if_success (show @Eq (Option _) _ _)); rfl) | ((show @Eq (Option _) _ _); simp only [List.getElem?_cons_zero, List.getElem?_cons_succ]; done) | ((show @Eq (Option _) _ _); simp only [List.getElem?_cons_zero, List.getElem?_cons_succ]; rfl) | with_reducible rfl)); conv => whnf))); exact Done.mk trivial))); conv => whnf)
          | (refine Pick.mk ?_ ?_ ?_; rotate_left; (focus ((refine pick_int _ _ _ ?_ ?_ <;> omega))); conv => whnf))
        refine Hand.mk [] ?_
        try (conv => whnf)
        refine CallW.d (s_l08Stamp (l[((p.length : Int) + o.deps[a] - 1).toNat]'(by omega))) ?_
        try (conv => whnf)
        repeat (refine Need.mk ?_ ?_; (focus (((conv => whnf); (repeat (first | (refine Need.mk (by first | rfl | omega | (simp; done)) ?_; conv => whnf) | (refine Pick.mk ?_ ?_ ?_; rotate_left; (focus (first | with_reducible exact xor_u8 _ _ | (with_reducible refine xor_i64 ?_ ?_; all_goals omega) | (with_reducible refine xor_u32 ?_ ?_; all_goals omega) | assumption | with_reducible exact set_byN _ _ _ _ | with_reducible exact set_byI _ _ _ _ | with_reducible exact set_inN _ _ _ _ | with_reducible exact set_inI _ _ _ _ | with_reducible exact set_stN _ _ _ _ | with_reducible exact set_tsN _ _ _ _ | with_reducible exact set_tsI _ _ _ _ | with_reducible exact set_boN _ _ _ _ | with_reducible exact set_boI _ _ _ _ | (with_reducible refine get_mapN _ _ _ ?_; first | omega | (simp; omega)) | (with_reducible refine get_mapI _ _ _ ?_ ?_ <;> first | omega | (simp; omega)) | exact bs_beq _ _ | exact bs_less _ _ | exact bs_leq _ _ | with_reducible exact bs_app _ _ | (refine bs_get _ _ ?_; omega) | (refine bs_int _ _ ?_ ?_ <;> omega) | with_reducible exact sl_map0 _ _ _ | with_reducible exact sl_mapN _ _ _ | with_reducible exact sl_map _ _ _ _ | exact bs_extract0 _ _ | exact bs_extractN _ _ | exact bs_extract _ _ _ | (refine bnd_id ?_; omega) | (refine bnd_sub ?_ ?_ <;> omega) | (refine bnd_add ?_; omega) | (refine bnd_subN ?_ ?_ <;> omega) | (refine bnd_int ?_ ?_ <;> omega) | ((show @Eq Nat (_ + Int.toNat _ * _) _); simp only [Int.toNat_natCast, Nat.zero_add, Nat.mul_one]; rfl) | ((show @Eq (List _) (List.set [_] _ _) _); simp only [List.set_cons_zero]; rfl) | exact List.length_map _ | exact size_bs _ | (simp only [List.length_map, List.length_append, List.length_cons, List.length_nil, List.length_replicate, Nat.zero_add]; rfl) | with_reducible exact List.nil_append _ | with_reducible exact map_app _ _ _ | exact map_snoc byD _ _ | exact map_snoc inD _ _ | exact map_snoc stD _ _ | exact map_snoc tsD _ _ | (simp only [chunks]; rfl) | (refine wid ?_ ?_ <;> omega) | exact wby _ | with_reducible exact wby32 _ | with_reducible exact wu32 _ | exact wby64 _ | exact shr8 _ | exact shr16 _ | exact shr24 _ | exact shr32 _ | (refine tmodn ?_; omega) | (refine wdiv ?_ ?_ ?_ <;> omega) | exact wbyte _ | exact natlit _ | exact rep_by _ | exact rep_in _ | exact rep_bo _ | exact rep_st _ | (refine pick_nat _ _ _ ?_; omega) | (refine pick_int _ _ _ ?_ ?_ <;> omega) | (refine SlOf.full ?_; first | (simp; done) | (simp; omega)) | (with_reducible refine SlOf.pre _ _ ?_; first | omega | (simp; omega)) | (refine SlF.self _ _ ?_ ?_; (first | rfl | omega | (simp; done) | (simp; omega)); (exact fun _ => rfl)) | (refine SlF.pre _ _ ?_ ?_; (first | omega | (simp; omega)); (exact fun _ => rfl)) | (refine SlF.same ?_ ?_; (first | rfl | omega | (simp; done) | (simp; omega)); (first | exact fz_self _ _ (fun _ => rfl) | exact fz_pl rfl | (refine Fz.append ?_ ?_ <;> first | exact fz_self _ _ (fun _ => rfl) | exact fz_pl rfl) | (refine Fz.append (Fz.append ?_ ?_) ?_ <;> first | exact fz_self _ _ (fun _ => rfl) | exact fz_pl rfl))) | (simp only [Int.toNat_natCast, Nat.zero_add, Nat.mul_one]; rfl) | ((fail_if_success (show @Eq (Option _) _ _)); rfl) | ((show @Eq (Option _) _ _); simp only [List.getElem?_cons_zero, List.getElem?_cons_succ]; done) | ((show @Eq (Option _) _ _); simp only [List.getElem?_cons_zero, List.getElem?_cons_succ]; rfl) | with_reducible rfl)); conv => whnf))); exact Done.mk trivial))); conv => whnf)
        refine Hand.mk [] ?_
        try (conv => whnf)
        refine CallW.d (s_l08Stamp o) ?_
        try (conv => whnf)
        refine Hand.mk [] ?_
        try (conv => whnf)
        refine CallW.d (s_StampLess _ _ o.time o.actor) ?_
        try (conv => whnf)
        try (conv => whnf)
        repeat' (first
          | (refine Pick.mk ?_ ?_ ?_; rotate_left; (focus ((refine wid ?_ ?_ <;> omega))); conv => whnf)
          | (refine br_dec (fun _ => ?_) (fun _ => ?_) <;> first | (exfalso; omega) | contradiction | conv => whnf)
          | (refine br_not ?_; conv => whnf)
          | (refine br_bne (fun _ => ?_) (fun _ => ?_) <;> first | (exfalso; omega) | contradiction | conv => whnf)
          | (refine br_beq (fun _ => ?_) (fun _ => ?_) <;> first | (exfalso; omega) | contradiction | conv => whnf))
        · rename_i hst
          refine Pick.mk (a + 1) ⟨⟨by omega, step ⟨by rw [e3]; omega, fun _ x hx => by rw [e3, e4] at hx; injection hx with hx; subst hx; exact hst⟩⟩, by omega⟩ (LeX.of ?_)
          try (conv => whnf)
          repeat (refine Need.mk ?_ ?_; (focus (first | omega | (simp; done))); conv => whnf)
          trivial
        · rename_i hst
          refine Out.mk true [] [] ?_
          try (conv => whnf)
          exact ⟨dec_f fun h => hst ((h a ha16).2 (by rw [e3]; omega) _ (by rw [e3]; exact e4)), rfl⟩
      · refine Pick.mk (a + 1) ⟨⟨by omega, step ⟨by rw [e3]; omega, fun h => by rw [e3] at h; omega⟩⟩, by omega⟩ (LeX.of ?_)
        try (conv => whnf)
        repeat (refine Need.mk ?_ ?_; (focus (first | omega | (simp; done))); conv => whnf)
        trivial
    · try (conv => whnf)
      repeat' (first
        | (refine SeqJ.thru ?_; conv => whnf)
        | (refine br_dec (fun _ => ?_) (fun _ => ?_) <;> first | (exfalso; omega) | contradiction | conv => whnf)
        | (refine br_not ?_; conv => whnf)
        | (refine br_bne (fun _ => ?_) (fun _ => ?_) <;> first | (exfalso; omega) | contradiction | conv => whnf)
        | (refine br_beq (fun _ => ?_) (fun _ => ?_) <;> first | (exfalso; omega) | contradiction | conv => whnf))
      refine Out.mk true [] [] ?_
      try (conv => whnf)
      exact ⟨dec_t fun b hb => hca b (by omega), rfl⟩
end Go.Proofs.Ytpdjehnlejjfmaa.D
/- The reference's telling whether a log is in order: the whole. -/
namespace Go.Proofs.Ytpdjehnlejjfmaa.D
open Go.RowKit
set_option maxRecDepth 100000
set_option maxHeartbeats 4000000
set_option linter.unusedVariables false
set_option linter.unusedSimpArgs false

theorem s_LogOK (l : List OpV) (hw : ∀ o ∈ l, o.key.length ≤ 2 ^ 40 ∧ o.text.length ≤ 2 ^ 40) : CallD Try.prog id_spec_LogOK [vL l] [] (vB (decide (LogOk l))) [] := by
  refine F_spec_LogOK ?_
  try (conv => whnf)
  repeat' (first
    | (refine Pick.mk ?_ ?_ ?_; rotate_left; (focus (exact List.length_map _)); conv => whnf)
    | (refine SeqJ.thru ?_; conv => whnf)
    | (refine br_dec (fun _ => ?_) (fun _ => ?_) <;> first | (exfalso; omega) | contradiction | conv => whnf)
    | (refine br_not ?_; conv => whnf)
    | (refine br_bne (fun _ => ?_) (fun _ => ?_) <;> first | (exfalso; omega) | contradiction | conv => whnf)
    | (refine br_beq (fun _ => ?_) (fun _ => ?_) <;> first | (exfalso; omega) | contradiction | conv => whnf))
  · rename_i hlen
    refine Out.mk true [] [] ?_
    try (conv => whnf)
    exact ⟨dec_f fun h => by have := h.len; omega, rfl⟩
  · rename_i hlen
    refine LoopE.mk (fun i : Nat => mk [(0, vL l), (3, vI .i64 i)] []) (fun i => i ≤ l.length ∧ Good1 l i) (fun i => l.length - i) 0 ⟨by omega, Good1.zero l⟩ (LeX.of ?_) ?_
    · try (conv => whnf)
      repeat (refine Need.mk ?_ ?_; (focus (first | omega | (simp; done))); conv => whnf)
      trivial
    · rintro i ⟨hi, hg⟩
      by_cases hlt : i < l.length
      · obtain ⟨hk, ht⟩ := hw _ (List.getElem_mem hlt)
        by_cases hok : OpOk l[i]
        · obtain ⟨a0, a1⟩ := hok.st.2
          obtain ⟨q0, q1⟩ := hok.seq
          by_cases h0 : i = 0
          · try (conv => whnf)
            repeat' (first
              | (refine Pick.mk ?_ ?_ ?_; rotate_left; (focus (first | exact List.length_map _ | (refine pick_nat _ _ _ ?_; omega))); conv => whnf)
              | (refine SeqJ.thru ?_; conv => whnf)
              | (refine br_dec (fun _ => ?_) (fun _ => ?_) <;> first | (exfalso; omega) | contradiction | conv => whnf)
              | (refine br_not ?_; conv => whnf)
              | (refine br_bne (fun _ => ?_) (fun _ => ?_) <;> first | (exfalso; omega) | contradiction | conv => whnf)
              | (refine br_beq (fun _ => ?_) (fun _ => ?_) <;> first | (exfalso; omega) | contradiction | conv => whnf))
            refine Hand.mk [] ?_
            try (conv => whnf)
            refine CallW.d (s_l08OpOK l[i] hk ht) ?_
            try (conv => whnf)
            try (conv => whnf)
            repeat' (first
              | (refine Pick.mk ?_ ?_ ?_; rotate_left; (focus (first | (refine wid ?_ ?_ <;> omega) | (refine pick_nat _ _ _ ?_; omega))); conv => whnf)
              | (refine br_dec (fun _ => ?_) (fun _ => ?_) <;> first | (exfalso; omega) | contradiction | conv => whnf)
              | (refine br_not ?_; conv => whnf)
              | (refine br_bne (fun _ => ?_) (fun _ => ?_) <;> first | (exfalso; omega) | contradiction | conv => whnf)
              | (refine br_beq (fun _ => ?_) (fun _ => ?_) <;> first | (exfalso; omega) | contradiction | conv => whnf))
            all_goals
              first
                | skip
                  have hst := (seqStep hlt hg).2 (by omega)
                  refine Pick.mk (i + 1) ⟨⟨by omega, Good1.step hlt hg hok hst.1 hst.2⟩, by omega⟩ (LeX.of ?_)
                  try (conv => whnf)
                  repeat (refine Need.mk ?_ ?_; (focus (first | omega | (simp; done))); conv => whnf)
                  trivial
                | skip
                  refine Out.mk true [] [] ?_
                  try (conv => whnf)
                  exact ⟨dec_f fun h => by have := (seqStep hlt hg).1 ⟨(h.good.at hlt).2.1, (h.good.at hlt).2.2⟩; omega, rfl⟩
          · have hp := (hg (i - 1) (by omega) (by omega)).1
            obtain ⟨b0, b1⟩ := hp.st.2
            obtain ⟨r0, r1⟩ := hp.seq
            have ep : ((i : Int) - 1).toNat = i - 1 := by omega
            have ha : (l[((i : Int) - 1).toNat]'(by omega)).actor = (l[i - 1]'(by omega)).actor := by simp only [ep]
            have hs : (l[((i : Int) - 1).toNat]'(by omega)).seq = (l[i - 1]'(by omega)).seq := by simp only [ep]
            try (conv => whnf)
            repeat' (first
              | (refine Pick.mk ?_ ?_ ?_; rotate_left; (focus (first | exact List.length_map _ | (refine pick_nat _ _ _ ?_; omega))); conv => whnf)
              | (refine SeqJ.thru ?_; conv => whnf)
              | (refine br_dec (fun _ => ?_) (fun _ => ?_) <;> first | (exfalso; omega) | contradiction | conv => whnf)
              | (refine br_not ?_; conv => whnf)
              | (refine br_bne (fun _ => ?_) (fun _ => ?_) <;> first | (exfalso; omega) | contradiction | conv => whnf)
              | (refine br_beq (fun _ => ?_) (fun _ => ?_) <;> first | (exfalso; omega) | contradiction | conv => whnf))
            refine Hand.mk [] ?_
            try (conv => whnf)
            refine CallW.d (s_l08OpOK l[i] hk ht) ?_
            try (conv => whnf)
            try (conv => whnf)
            repeat' (first
              | (refine Pick.mk ?_ ?_ ?_; rotate_left; (focus (first | (refine wid ?_ ?_ <;> omega) | (refine pick_nat _ _ _ ?_; omega) | (refine pick_int _ _ _ ?_ ?_ <;> omega))); conv => whnf)
              | (refine br_dec (fun _ => ?_) (fun _ => ?_) <;> first | (exfalso; omega) | contradiction | conv => whnf)
              | (refine br_not ?_; conv => whnf)
              | (refine br_bne (fun _ => ?_) (fun _ => ?_) <;> first | (exfalso; omega) | contradiction | conv => whnf)
              | (refine br_beq (fun _ => ?_) (fun _ => ?_) <;> first | (exfalso; omega) | contradiction | conv => whnf))
            all_goals
              first
                | skip
                  have hst := (seqStep hlt hg).2 (by omega)
                  refine Pick.mk (i + 1) ⟨⟨by omega, Good1.step hlt hg hok hst.1 hst.2⟩, by omega⟩ (LeX.of ?_)
                  try (conv => whnf)
                  repeat (refine Need.mk ?_ ?_; (focus (first | omega | (simp; done))); conv => whnf)
                  trivial
                | skip
                  refine Out.mk true [] [] ?_
                  try (conv => whnf)
                  exact ⟨dec_f fun h => by have := (seqStep hlt hg).1 ⟨(h.good.at hlt).2.1, (h.good.at hlt).2.2⟩; omega, rfl⟩
        · try (conv => whnf)
          repeat' (first
            | (refine Pick.mk ?_ ?_ ?_; rotate_left; (focus (first | exact List.length_map _ | (refine pick_nat _ _ _ ?_; omega))); conv => whnf)
            | (refine SeqJ.thru ?_; conv => whnf)
            | (refine br_dec (fun _ => ?_) (fun _ => ?_) <;> first | (exfalso; omega) | contradiction | conv => whnf)
            | (refine br_not ?_; conv => whnf)
            | (refine br_bne (fun _ => ?_) (fun _ => ?_) <;> first | (exfalso; omega) | contradiction | conv => whnf)
            | (refine br_beq (fun _ => ?_) (fun _ => ?_) <;> first | (exfalso; omega) | contradiction | conv => whnf))
          refine Hand.mk [] ?_
          try (conv => whnf)
          refine CallW.d (s_l08OpOK l[i] hk ht) ?_
          try (conv => whnf)
          try (conv => whnf)
          repeat' (first
            | (refine br_dec (fun _ => ?_) (fun _ => ?_) <;> first | (exfalso; omega) | contradiction | conv => whnf)
            | (refine br_not ?_; conv => whnf)
            | (refine br_bne (fun _ => ?_) (fun _ => ?_) <;> first | (exfalso; omega) | contradiction | conv => whnf)
            | (refine br_beq (fun _ => ?_) (fun _ => ?_) <;> first | (exfalso; omega) | contradiction | conv => whnf))
          refine Out.mk true [] [] ?_
          try (conv => whnf)
          exact ⟨dec_f fun h => hok (h.good.at hlt).1, rfl⟩
      · have hgl : Good1 l l.length := by
          have e9 : i = l.length := by omega
          rwa [e9] at hg
        try (conv => whnf)
        repeat' (first
          | (refine Pick.mk ?_ ?_ ?_; rotate_left; (focus (exact List.length_map _)); conv => whnf)
          | (refine SeqJ.thru ?_; conv => whnf)
          | (refine br_dec (fun _ => ?_) (fun _ => ?_) <;> first | (exfalso; omega) | contradiction | conv => whnf)
          | (refine br_not ?_; conv => whnf)
          | (refine br_bne (fun _ => ?_) (fun _ => ?_) <;> first | (exfalso; omega) | contradiction | conv => whnf)
          | (refine br_beq (fun _ => ?_) (fun _ => ?_) <;> first | (exfalso; omega) | contradiction | conv => whnf))
        refine Hand.mk [] ?_
        try (conv => whnf)
        refine CallW.d (s_l08Counts l (fun o ho => (hgl.all o ho).st.2) (by omega)) ?_
        try (conv => whnf)
        repeat (first
          | (refine Need.mk ?_ ?_; (focus (omega)); conv => whnf)
          | (refine Pick.mk ?_ ?_ ?_; rotate_left; (focus (first | (simp only [List.length_map, List.length_append, List.length_cons, List.length_nil, List.length_replicate, Nat.zero_add]; rfl) | exact natlit _)); conv => whnf))
        refine LoopE.mk (fun i : Nat => mk [(0, vL l), (7, vI .i64 i), (5, .one (.ptr 49184 0)), (6, .one (.os (.v 53248) 1 0 101))] [(49184, .box [.os (.v 49168) 1 0 16]), (49168, .own 1 ((cnts l).map inD)), (53248, .own 1 ((kdOf thS (l.take i)).map inD))])
          (fun i => i ≤ l.length ∧ SameTh thS (l.take i) ∧ ∀ o ∈ l.take i, Cause l o) (fun i => l.length - i) 0 ⟨by omega, fun a ha => by simp at ha, by simp⟩ (LeX.of ?_) ?_
        · try (conv => whnf)
          repeat (refine Need.mk ?_ ?_; (focus (first | omega | (simp; done) | rfl)); conv => whnf)
          trivial
        · rintro i ⟨hi, hs, hc⟩
          by_cases hlt : i < l.length
          · have hok := (hgl.at hlt).1
            have hob := hok.obj
            have hcl := cnts_length l
            have hkl := kdOf_length thS (l.take i)
            have e5 : (kdOf thS (l.take i)).getD l[i].obj.toNat 0 = (kdOf thS (l.take i))[l[i].obj.toNat] := by simp [List.getD, show l[i].obj.toNat < 101 by omega]
            have hki := kd_iff (fun k => thS_ne) (fun o ho => hgl.all o (List.mem_of_mem_take ho)) hs hok
            rw [e5] at hki
            by_cases hca : Cause l l[i]
            · try (conv => whnf)
              repeat' (first
                | (refine Pick.mk ?_ ?_ ?_; rotate_left; (focus (first | exact List.length_map _ | (refine pick_nat _ _ _ ?_; omega))); conv => whnf)
                | (refine SeqJ.thru ?_; conv => whnf)
                | (refine br_dec (fun _ => ?_) (fun _ => ?_) <;> first | (exfalso; omega) | contradiction | conv => whnf)
                | (refine br_not ?_; conv => whnf)
                | (refine br_bne (fun _ => ?_) (fun _ => ?_) <;> first | (exfalso; omega) | contradiction | conv => whnf)
                | (refine br_beq (fun _ => ?_) (fun _ => ?_) <;> first | (exfalso; omega) | contradiction | conv => whnf))
              refine Hand.mk [] ?_
              try (conv => whnf)
              repeat (refine Pick.mk ?_ ?_ ?_; rotate_left; (focus ((refine SlF.self _ _ ?_ ?_; (first | rfl | omega | (simp; done) | (simp; omega)); (exact fun _ => rfl)))); conv => whnf)
              refine CallW.d (s_l08Causes l l[i] hgl hok (by omega)) ?_
              try (conv => whnf)
              try (conv => whnf)
              repeat' (first
                | (refine Pick.mk ?_ ?_ ?_; rotate_left; (focus ((refine pick_nat _ _ _ ?_; omega))); conv => whnf)
                | (refine br_dec (fun _ => ?_) (fun _ => ?_) <;> first | (exfalso; omega) | contradiction | conv => whnf)
                | (refine br_not ?_; conv => whnf)
                | (refine br_bne (fun _ => ?_) (fun _ => ?_) <;> first | (exfalso; omega) | contradiction | conv => whnf)
                | (refine br_beq (fun _ => ?_) (fun _ => ?_) <;> first | (exfalso; omega) | contradiction | conv => whnf))
              refine Hand.mk [] ?_
              try (conv => whnf)
              refine CallW.d (s_l08Thing l[i].kind) ?_
              try (conv => whnf)
              repeat (first
                | (refine Need.mk ?_ ?_; (focus (omega)); conv => whnf)
                | (refine Pick.mk ?_ ?_ ?_; rotate_left; (focus (first | (with_reducible refine get_mapI _ _ _ ?_ ?_ <;> first | omega | (simp; omega)) | (refine pick_nat _ _ _ ?_; omega))); conv => whnf)
                | (refine SeqJ.thru ?_; conv => whnf))
              try (conv => whnf)
              repeat' (first
                | (refine Need.mk ?_ ?_; (focus (first | omega | (simp only [List.length_map, List.length_append, List.length_cons, List.length_nil, List.length_replicate]; omega))); conv => whnf)
                | (refine Pick.mk ?_ ?_ ?_; rotate_left; (focus (first | with_reducible exact set_inI _ _ _ _ | (with_reducible refine get_mapI _ _ _ ?_ ?_ <;> first | omega | (simp; omega)) | (refine wid ?_ ?_ <;> omega) | (refine pick_nat _ _ _ ?_; omega))); conv => whnf)
                | (refine br_dec (fun _ => ?_) (fun _ => ?_) <;> first | (exfalso; omega) | contradiction | conv => whnf)
                | (refine br_not ?_; conv => whnf)
                | (refine br_bne (fun _ => ?_) (fun _ => ?_) <;> first | (exfalso; omega) | contradiction | conv => whnf)
                | (refine br_beq (fun _ => ?_) (fun _ => ?_) <;> first | (exfalso; omega) | contradiction | conv => whnf))
              · have hsm := hki.1 (by omega)
                refine Pick.mk (i + 1) ⟨⟨by omega, by rw [List.take_succ_eq_append_getElem hlt]; exact hs.snoc hsm, all_next hlt hc hca⟩, by omega⟩ (LeX.of ?_)
                try (conv => whnf)
                repeat (refine Need.mk ?_ ?_; (focus (first | omega | (simp; done))); conv => whnf)
                refine Need.mk (by rw [List.take_succ_eq_append_getElem hlt, kdOf_snoc]) ?_
                try (conv => whnf)
                trivial
              · have hsm := hki.1 (by omega)
                refine Pick.mk (i + 1) ⟨⟨by omega, by rw [List.take_succ_eq_append_getElem hlt]; exact hs.snoc hsm, all_next hlt hc hca⟩, by omega⟩ (LeX.of ?_)
                try (conv => whnf)
                repeat (refine Need.mk ?_ ?_; (focus (first | omega | (simp; done))); conv => whnf)
                refine Need.mk (by rw [List.take_succ_eq_append_getElem hlt, kdOf_snoc]) ?_
                try (conv => whnf)
                trivial
              · refine Out.mk true [] [] ?_
                try (conv => whnf)
                exact ⟨dec_f fun h => by
                  have := hki.2 (SameTh.of_snoc (((SameTh.iff hgl.all).1 h.same).sub (m := l.take i ++ [l[i]]) (fun o ho => by rw [← List.take_succ_eq_append_getElem hlt] at ho; exact List.mem_of_mem_take ho)))
                  omega, rfl⟩
            · try (conv => whnf)
              repeat' (first
                | (refine Pick.mk ?_ ?_ ?_; rotate_left; (focus (first | exact List.length_map _ | (refine pick_nat _ _ _ ?_; omega))); conv => whnf)
                | (refine SeqJ.thru ?_; conv => whnf)
                | (refine br_dec (fun _ => ?_) (fun _ => ?_) <;> first | (exfalso; omega) | contradiction | conv => whnf)
                | (refine br_not ?_; conv => whnf)
                | (refine br_bne (fun _ => ?_) (fun _ => ?_) <;> first | (exfalso; omega) | contradiction | conv => whnf)
                | (refine br_beq (fun _ => ?_) (fun _ => ?_) <;> first | (exfalso; omega) | contradiction | conv => whnf))
              refine Hand.mk [] ?_
              try (conv => whnf)
              repeat (refine Pick.mk ?_ ?_ ?_; rotate_left; (focus ((refine SlF.self _ _ ?_ ?_; (first | rfl | omega | (simp; done) | (simp; omega)); (exact fun _ => rfl)))); conv => whnf)
              refine CallW.d (s_l08Causes l l[i] hgl hok (by omega)) ?_
              try (conv => whnf)
              try (conv => whnf)
              repeat' (first
                | (refine br_dec (fun _ => ?_) (fun _ => ?_) <;> first | (exfalso; omega) | contradiction | conv => whnf)
                | (refine br_not ?_; conv => whnf)
                | (refine br_bne (fun _ => ?_) (fun _ => ?_) <;> first | (exfalso; omega) | contradiction | conv => whnf)
                | (refine br_beq (fun _ => ?_) (fun _ => ?_) <;> first | (exfalso; omega) | contradiction | conv => whnf))
              refine Out.mk true [] [] ?_
              try (conv => whnf)
              exact ⟨dec_f fun h => hca (h.cause _ (List.getElem_mem hlt)), rfl⟩
          · try (conv => whnf)
            repeat' (first
              | (refine Pick.mk ?_ ?_ ?_; rotate_left; (focus (exact List.length_map _)); conv => whnf)
              | (refine SeqJ.thru ?_; conv => whnf)
              | (refine br_dec (fun _ => ?_) (fun _ => ?_) <;> first | (exfalso; omega) | contradiction | conv => whnf)
              | (refine br_not ?_; conv => whnf)
              | (refine br_bne (fun _ => ?_) (fun _ => ?_) <;> first | (exfalso; omega) | contradiction | conv => whnf)
              | (refine br_beq (fun _ => ?_) (fun _ => ?_) <;> first | (exfalso; omega) | contradiction | conv => whnf))
            refine Out.mk true [] [] ?_
            try (conv => whnf)
            rw [List.take_of_length_le (by omega)] at hs hc
            exact ⟨dec_t ⟨by omega, hgl, (SameTh.iff hgl.all).2 hs, hc⟩, rfl⟩
end Go.Proofs.Ytpdjehnlejjfmaa.D
/- A log's bytes by the reference. -/
namespace Go.Proofs.Ytpdjehnlejjfmaa.D
open Go.RowKit
set_option maxRecDepth 100000
set_option maxHeartbeats 4000000
set_option linter.unusedVariables false
set_option linter.unusedSimpArgs false

theorem colL_take {l : List OpV} {i : Nat} (h : i < l.length) (c : Nat) : colL (l.take (i + 1)) c = colL (l.take i) c ++ [colV l[i] c] := by
  rw [List.take_succ_eq_append_getElem h, colL, List.map_append]; rfl
theorem keysOf_take {l : List OpV} {i : Nat} (h : i < l.length) : keysOf (l.take (i + 1)) = keysOf (l.take i) ++ [l[i].key] := by
  rw [List.take_succ_eq_append_getElem h, keysOf, List.map_append]; rfl
theorem textsOf_take {l : List OpV} {i : Nat} (h : i < l.length) : textsOf (l.take (i + 1)) = textsOf (l.take i) ++ [l[i].text] := by
  rw [List.take_succ_eq_append_getElem h, textsOf, List.map_append]; rfl
theorem colV_dep {o : OpV} (hd : o.deps.length = 16) {c : Nat} (h9 : 9 ≤ c) (hc : c < 25) : colV o c = o.deps[((c : Int) - 9).toNat]'(by omega) := by
  unfold colV
  rw [List.getD_eq_getElem?_getD, List.getElem?_append_right (by simpa [nums] using h9), show c - (nums o).length = ((c : Int) - 9).toNat by simp [nums]; omega, List.getElem?_eq_getElem (by omega)]
  rfl
theorem s_l08Column (l : List OpV) (c : Nat) (hc : c < 25) (hl : l.length ≤ 2 ^ 20) (hd : ∀ o ∈ l, OpOk o) : CallD Try.prog id_spec_l08Column [vL l, vI .i64 c] [] (.one (.os (.v 0) 1 0 l.length)) [.own 1 ((colL l c).map inD)] := by
  refine F_spec_l08Column ?_
  try (conv => whnf)
  repeat (refine Pick.mk ?_ ?_ ?_; rotate_left; (focus ((simp only [chunks]; rfl))); conv => whnf)
  refine LoopE.mk (fun i : Nat => mk [(0, vL l), (1, vI .i64 c), (5, .one (.os (.v 8192) 1 0 i)), (6, vI .i64 i)] [(8192, .own 1 ((colL (l.take i) c).map inD))]) (fun i => i ≤ l.length) (fun i => l.length - i) 0 (by omega) (LeX.of ?_) ?_
  · try (conv => whnf)
    repeat (refine Need.mk ?_ ?_; (focus (first | omega | (simp; done) | rfl)); conv => whnf)
    trivial
  · intro i hi
    by_cases hlt : i < l.length
    · have hok := hd _ (List.getElem_mem hlt)
      have hvl := hok.vec.1
      have hn := hok.num
      have hcl := colL_take hlt c
      by_cases h9 : c < 9
      · have hcs : c = 0 ∨ c = 1 ∨ c = 2 ∨ c = 3 ∨ c = 4 ∨ c = 5 ∨ c = 6 ∨ c = 7 ∨ c = 8 := by omega
        rcases hcs with rfl | rfl | rfl | rfl | rfl | rfl | rfl | rfl | rfl
        · try (conv => whnf)
          repeat' (first
            | (refine Need.mk ?_ ?_; (focus (first | omega | rfl)); conv => whnf)
            | (refine Pick.mk ?_ ?_ ?_; rotate_left; (focus (first | exact List.length_map _ | (simp only [List.length_map, List.length_append, List.length_cons, List.length_nil, List.length_replicate, Nat.zero_add]; rfl) | exact map_snoc inD _ _ | (simp only [chunks]; rfl) | (refine wid ?_ ?_ <;> omega) | (refine pick_nat _ _ _ ?_; omega) | (refine SlOf.full ?_; first | (simp; done) | (simp; omega)))); conv => whnf)
            | (refine SeqJ.thru ?_; conv => whnf)
            | (refine br_dec (fun _ => ?_) (fun _ => ?_) <;> first | (exfalso; omega) | contradiction | conv => whnf)
            | (refine br_not ?_; conv => whnf)
            | (refine br_bne (fun _ => ?_) (fun _ => ?_) <;> first | (exfalso; omega) | contradiction | conv => whnf)
            | (refine br_beq (fun _ => ?_) (fun _ => ?_) <;> first | (exfalso; omega) | contradiction | conv => whnf))
          refine Pick.mk (i + 1) (by constructor <;> first | omega | (simp only []; omega)) (LeX.of ?_)
          try (conv => whnf)
          repeat (refine Need.mk ?_ ?_; (focus (first | omega | (simp; done))); conv => whnf)
          refine Need.mk (by rw [hcl]; rfl) ?_
          try (conv => whnf)
          trivial
        · try (conv => whnf)
          repeat' (first
            | (refine Need.mk ?_ ?_; (focus (first | omega | rfl)); conv => whnf)
            | (refine Pick.mk ?_ ?_ ?_; rotate_left; (focus (first | exact List.length_map _ | (simp only [List.length_map, List.length_append, List.length_cons, List.length_nil, List.length_replicate, Nat.zero_add]; rfl) | exact map_snoc inD _ _ | (simp only [chunks]; rfl) | (refine wid ?_ ?_ <;> omega) | (refine pick_nat _ _ _ ?_; omega) | (refine SlOf.full ?_; first | (simp; done) | (simp; omega)))); conv => whnf)
            | (refine SeqJ.thru ?_; conv => whnf)
            | (refine br_dec (fun _ => ?_) (fun _ => ?_) <;> first | (exfalso; omega) | contradiction | conv => whnf)
            | (refine br_not ?_; conv => whnf)
            | (refine br_bne (fun _ => ?_) (fun _ => ?_) <;> first | (exfalso; omega) | contradiction | conv => whnf)
            | (refine br_beq (fun _ => ?_) (fun _ => ?_) <;> first | (exfalso; omega) | contradiction | conv => whnf))
          refine Pick.mk (i + 1) (by constructor <;> first | omega | (simp only []; omega)) (LeX.of ?_)
          try (conv => whnf)
          repeat (refine Need.mk ?_ ?_; (focus (first | omega | (simp; done))); conv => whnf)
          refine Need.mk (by rw [hcl]; rfl) ?_
          try (conv => whnf)
          trivial
        · try (conv => whnf)
          repeat' (first
            | (refine Need.mk ?_ ?_; (focus (first | omega | rfl)); conv => whnf)
            | (refine Pick.mk ?_ ?_ ?_; rotate_left; (focus (first | exact List.length_map _ | (simp only [List.length_map, List.length_append, List.length_cons, List.length_nil, List.length_replicate, Nat.zero_add]; rfl) | exact map_snoc inD _ _ | (simp only [chunks]; rfl) | (refine wid ?_ ?_ <;> omega) | (refine pick_nat _ _ _ ?_; omega) | (refine SlOf.full ?_; first | (simp; done) | (simp; omega)))); conv => whnf)
            | (refine SeqJ.thru ?_; conv => whnf)
            | (refine br_dec (fun _ => ?_) (fun _ => ?_) <;> first | (exfalso; omega) | contradiction | conv => whnf)
            | (refine br_not ?_; conv => whnf)
            | (refine br_bne (fun _ => ?_) (fun _ => ?_) <;> first | (exfalso; omega) | contradiction | conv => whnf)
            | (refine br_beq (fun _ => ?_) (fun _ => ?_) <;> first | (exfalso; omega) | contradiction | conv => whnf))
          refine Pick.mk (i + 1) (by constructor <;> first | omega | (simp only []; omega)) (LeX.of ?_)
          try (conv => whnf)
          repeat (refine Need.mk ?_ ?_; (focus (first | omega | (simp; done))); conv => whnf)
          refine Need.mk (by rw [hcl]; rfl) ?_
          try (conv => whnf)
          trivial
        · try (conv => whnf)
          repeat' (first
            | (refine Need.mk ?_ ?_; (focus (first | omega | rfl)); conv => whnf)
            | (refine Pick.mk ?_ ?_ ?_; rotate_left; (focus (first | exact List.length_map _ | (simp only [List.length_map, List.length_append, List.length_cons, List.length_nil, List.length_replicate, Nat.zero_add]; rfl) | exact map_snoc inD _ _ | (simp only [chunks]; rfl) | (refine wid ?_ ?_ <;> omega) | (refine pick_nat _ _ _ ?_; omega) | (refine SlOf.full ?_; first | (simp; done) | (simp; omega)))); conv => whnf)
            | (refine SeqJ.thru ?_; conv => whnf)
            | (refine br_dec (fun _ => ?_) (fun _ => ?_) <;> first | (exfalso; omega) | contradiction | conv => whnf)
            | (refine br_not ?_; conv => whnf)
            | (refine br_bne (fun _ => ?_) (fun _ => ?_) <;> first | (exfalso; omega) | contradiction | conv => whnf)
            | (refine br_beq (fun _ => ?_) (fun _ => ?_) <;> first | (exfalso; omega) | contradiction | conv => whnf))
          refine Pick.mk (i + 1) (by constructor <;> first | omega | (simp only []; omega)) (LeX.of ?_)
          try (conv => whnf)
          repeat (refine Need.mk ?_ ?_; (focus (first | omega | (simp; done))); conv => whnf)
          refine Need.mk (by rw [hcl]; rfl) ?_
          try (conv => whnf)
          trivial
        · try (conv => whnf)
          repeat' (first
            | (refine Need.mk ?_ ?_; (focus (first | omega | rfl)); conv => whnf)
            | (refine Pick.mk ?_ ?_ ?_; rotate_left; (focus (first | exact List.length_map _ | (simp only [List.length_map, List.length_append, List.length_cons, List.length_nil, List.length_replicate, Nat.zero_add]; rfl) | exact map_snoc inD _ _ | (simp only [chunks]; rfl) | (refine wid ?_ ?_ <;> omega) | (refine pick_nat _ _ _ ?_; omega) | (refine SlOf.full ?_; first | (simp; done) | (simp; omega)))); conv => whnf)
            | (refine SeqJ.thru ?_; conv => whnf)
            | (refine br_dec (fun _ => ?_) (fun _ => ?_) <;> first | (exfalso; omega) | contradiction | conv => whnf)
            | (refine br_not ?_; conv => whnf)
            | (refine br_bne (fun _ => ?_) (fun _ => ?_) <;> first | (exfalso; omega) | contradiction | conv => whnf)
            | (refine br_beq (fun _ => ?_) (fun _ => ?_) <;> first | (exfalso; omega) | contradiction | conv => whnf))
          refine Pick.mk (i + 1) (by constructor <;> first | omega | (simp only []; omega)) (LeX.of ?_)
          try (conv => whnf)
          repeat (refine Need.mk ?_ ?_; (focus (first | omega | (simp; done))); conv => whnf)
          refine Need.mk (by rw [hcl]; rfl) ?_
          try (conv => whnf)
          trivial
        · try (conv => whnf)
          repeat' (first
            | (refine Pick.mk ?_ ?_ ?_; rotate_left; (focus (first | exact List.length_map _ | (refine pick_nat _ _ _ ?_; omega))); conv => whnf)
            | (refine SeqJ.thru ?_; conv => whnf)
            | (refine br_dec (fun _ => ?_) (fun _ => ?_) <;> first | (exfalso; omega) | contradiction | conv => whnf)
            | (refine br_not ?_; conv => whnf)
            | (refine br_bne (fun _ => ?_) (fun _ => ?_) <;> first | (exfalso; omega) | contradiction | conv => whnf)
            | (refine br_beq (fun _ => ?_) (fun _ => ?_) <;> first | (exfalso; omega) | contradiction | conv => whnf))
          refine Hand.mk [] ?_
          try (conv => whnf)
          refine CallW.d (s_l08Sign l[i].n (by omega)) ?_
          try (conv => whnf)
          repeat (first
            | (refine Need.mk ?_ ?_; (focus (first | omega | rfl)); conv => whnf)
            | (refine Pick.mk ?_ ?_ ?_; rotate_left; (focus (first | (simp only [List.length_map, List.length_append, List.length_cons, List.length_nil, List.length_replicate, Nat.zero_add]; rfl) | exact map_snoc inD _ _ | (simp only [chunks]; rfl) | (refine wid ?_ ?_ <;> omega) | (refine SlOf.full ?_; first | (simp; done) | (simp; omega)))); conv => whnf))
          refine Pick.mk (i + 1) (by constructor <;> first | omega | (simp only []; omega)) (LeX.of ?_)
          try (conv => whnf)
          repeat (refine Need.mk ?_ ?_; (focus (first | omega | (simp; done))); conv => whnf)
          refine Need.mk (by rw [hcl]; rfl) ?_
          try (conv => whnf)
          trivial
        · try (conv => whnf)
          repeat' (first
            | (refine Need.mk ?_ ?_; (focus (first | omega | rfl)); conv => whnf)
            | (refine Pick.mk ?_ ?_ ?_; rotate_left; (focus (first | exact List.length_map _ | (simp only [List.length_map, List.length_append, List.length_cons, List.length_nil, List.length_replicate, Nat.zero_add]; rfl) | exact map_snoc inD _ _ | (simp only [chunks]; rfl) | (refine wid ?_ ?_ <;> omega) | (refine pick_nat _ _ _ ?_; omega) | (refine SlOf.full ?_; first | (simp; done) | (simp; omega)))); conv => whnf)
            | (refine SeqJ.thru ?_; conv => whnf)
            | (refine br_dec (fun _ => ?_) (fun _ => ?_) <;> first | (exfalso; omega) | contradiction | conv => whnf)
            | (refine br_not ?_; conv => whnf)
            | (refine br_bne (fun _ => ?_) (fun _ => ?_) <;> first | (exfalso; omega) | contradiction | conv => whnf)
            | (refine br_beq (fun _ => ?_) (fun _ => ?_) <;> first | (exfalso; omega) | contradiction | conv => whnf))
          refine Pick.mk (i + 1) (by constructor <;> first | omega | (simp only []; omega)) (LeX.of ?_)
          try (conv => whnf)
          repeat (refine Need.mk ?_ ?_; (focus (first | omega | (simp; done))); conv => whnf)
          refine Need.mk (by rw [hcl]; rfl) ?_
          try (conv => whnf)
          trivial
        · try (conv => whnf)
          repeat' (first
            | (refine Need.mk ?_ ?_; (focus (first | omega | rfl)); conv => whnf)
            | (refine Pick.mk ?_ ?_ ?_; rotate_left; (focus (first | exact List.length_map _ | (simp only [List.length_map, List.length_append, List.length_cons, List.length_nil, List.length_replicate, Nat.zero_add]; rfl) | exact map_snoc inD _ _ | (simp only [chunks]; rfl) | (refine wid ?_ ?_ <;> omega) | (refine pick_nat _ _ _ ?_; omega) | (refine SlOf.full ?_; first | (simp; done) | (simp; omega)))); conv => whnf)
            | (refine SeqJ.thru ?_; conv => whnf)
            | (refine br_dec (fun _ => ?_) (fun _ => ?_) <;> first | (exfalso; omega) | contradiction | conv => whnf)
            | (refine br_not ?_; conv => whnf)
            | (refine br_bne (fun _ => ?_) (fun _ => ?_) <;> first | (exfalso; omega) | contradiction | conv => whnf)
            | (refine br_beq (fun _ => ?_) (fun _ => ?_) <;> first | (exfalso; omega) | contradiction | conv => whnf))
          refine Pick.mk (i + 1) (by constructor <;> first | omega | (simp only []; omega)) (LeX.of ?_)
          try (conv => whnf)
          repeat (refine Need.mk ?_ ?_; (focus (first | omega | (simp; done))); conv => whnf)
          refine Need.mk (by rw [hcl]; rfl) ?_
          try (conv => whnf)
          trivial
        · try (conv => whnf)
          repeat' (first
            | (refine Need.mk ?_ ?_; (focus (first | omega | rfl)); conv => whnf)
            | (refine Pick.mk ?_ ?_ ?_; rotate_left; (focus (first | exact List.length_map _ | (simp only [List.length_map, List.length_append, List.length_cons, List.length_nil, List.length_replicate, Nat.zero_add]; rfl) | exact map_snoc inD _ _ | (simp only [chunks]; rfl) | (refine wid ?_ ?_ <;> omega) | (refine pick_nat _ _ _ ?_; omega) | (refine SlOf.full ?_; first | (simp; done) | (simp; omega)))); conv => whnf)
            | (refine SeqJ.thru ?_; conv => whnf)
            | (refine br_dec (fun _ => ?_) (fun _ => ?_) <;> first | (exfalso; omega) | contradiction | conv => whnf)
            | (refine br_not ?_; conv => whnf)
            | (refine br_bne (fun _ => ?_) (fun _ => ?_) <;> first | (exfalso; omega) | contradiction | conv => whnf)
            | (refine br_beq (fun _ => ?_) (fun _ => ?_) <;> first | (exfalso; omega) | contradiction | conv => whnf))
          refine Pick.mk (i + 1) (by constructor <;> first | omega | (simp only []; omega)) (LeX.of ?_)
          try (conv => whnf)
          repeat (refine Need.mk ?_ ?_; (focus (first | omega | (simp; done))); conv => whnf)
          refine Need.mk (by rw [hcl]; rfl) ?_
          try (conv => whnf)
          trivial
      · have hdep := colV_dep hvl (show 9 ≤ c by omega) hc
        try (conv => whnf)
        repeat' (first
          | (refine Need.mk ?_ ?_; (focus (first | omega | rfl)); conv => whnf)
          | (refine Pick.mk ?_ ?_ ?_; rotate_left; (focus (first | exact List.length_map _ | (simp only [List.length_map, List.length_append, List.length_cons, List.length_nil, List.length_replicate, Nat.zero_add]; rfl) | exact map_snoc inD _ _ | (simp only [chunks]; rfl) | (refine wid ?_ ?_ <;> omega) | (refine pick_nat _ _ _ ?_; omega) | (refine pick_int _ _ _ ?_ ?_ <;> omega) | (refine SlOf.full ?_; first | (simp; done) | (simp; omega)))); conv => whnf)
          | (refine SeqJ.thru ?_; conv => whnf)
          | (refine br_dec (fun _ => ?_) (fun _ => ?_) <;> first | (exfalso; omega) | contradiction | conv => whnf)
          | (refine br_not ?_; conv => whnf)
          | (refine br_bne (fun _ => ?_) (fun _ => ?_) <;> first | (exfalso; omega) | contradiction | conv => whnf)
          | (refine br_beq (fun _ => ?_) (fun _ => ?_) <;> first | (exfalso; omega) | contradiction | conv => whnf))
        refine Pick.mk (i + 1) (by constructor <;> first | omega | (simp only []; omega)) (LeX.of ?_)
        try (conv => whnf)
        repeat (refine Need.mk ?_ ?_; (focus (first | omega | (simp; done))); conv => whnf)
        refine Need.mk (by rw [hcl, hdep]) ?_
        try (conv => whnf)
        trivial
    · try (conv => whnf)
      repeat' (first
        | (refine Pick.mk ?_ ?_ ?_; rotate_left; (focus (exact List.length_map _)); conv => whnf)
        | (refine SeqJ.thru ?_; conv => whnf)
        | (refine br_dec (fun _ => ?_) (fun _ => ?_) <;> first | (exfalso; omega) | contradiction | conv => whnf)
        | (refine br_not ?_; conv => whnf)
        | (refine br_bne (fun _ => ?_) (fun _ => ?_) <;> first | (exfalso; omega) | contradiction | conv => whnf)
        | (refine br_beq (fun _ => ?_) (fun _ => ?_) <;> first | (exfalso; omega) | contradiction | conv => whnf))
      refine Out.mk false [0, 1, 2, 3, 4] [] ?_
      try (conv => whnf)
      repeat (refine Need.mk ?_ ?_; (focus ((first | exact flat_by _ | exact flat_in _ | exact flat_st _ | exact flat_ts _ | exact flat_bo _ | exact flat_cl rfl))); conv => whnf)
      have e : l.take i = l := List.take_of_length_le (by omega)
      exact ⟨by rw [show i = l.length by omega], by rw [e]⟩
end Go.Proofs.Ytpdjehnlejjfmaa.D
/- The program's book of a log: its cells, an operation put into it. -/
namespace Go.Proofs.Ytpdjehnlejjfmaa.D
open Go.RowKit
set_option maxRecDepth 100000
set_option maxHeartbeats 4000000
set_option linter.unusedVariables false
set_option linter.unusedSimpArgs false

abbrev dI (n : Int) : DV := .sc (.int .i64 n)
def bookD (b : BookV) : List DV := (b.of.map fun l => DV.ow 12 0 l.length (l.map oD)) ++ ((b.kd.map dI) ++ [dI b.size, dI b.tT, dI b.tA])
structure BookV.Wf (b : BookV) : Prop where
  of : b.of.length = 16
  kd : b.kd.length = 101
theorem bookOf_wf (l : List OpV) : (bookOf l).Wf := ⟨by simp, by rw [book_kd]; simp⟩
theorem BookV.Wf.len {b : BookV} (h : b.Wf) : (bookD b).length = 120 := by simp [bookD, h.of, h.kd]
theorem bk_of {b : BookV} (h : b.Wf) {a : Nat} (ha : a < 16) : (bookD b)[a]? = some (.ow 12 0 (b.of.getD a []).length ((b.of.getD a []).map oD)) := by
  have := h.of
  simp only [bookD]
  rw [List.getElem?_append_left (by simp; omega), List.getElem?_map, List.getElem?_eq_getElem (by omega)]
  simp [List.getD, show a < b.of.length by omega]
theorem bk_kd {b : BookV} (h : b.Wf) {j : Nat} (hj : j < 101) : (bookD b)[16 + j]? = some (dI (b.kd.getD j 0)) := by
  have h1 := h.of; have h2 := h.kd
  simp only [bookD]
  rw [List.getElem?_append_right (by simp; omega), List.getElem?_append_left (by simp; omega)]
  simp [List.getD, h1, show j < b.kd.length by omega]
theorem bk_tail {b : BookV} (h : b.Wf) (n : Nat) : (bookD b)[117 + n]? = [dI b.size, dI b.tT, dI b.tA][n]? := by
  have h1 := h.of; have h2 := h.kd
  simp only [bookD]
  rw [List.getElem?_append_right (by simp; omega), List.getElem?_append_right (by simp; omega)]
  congr 1; simp [h1, h2]; omega
theorem bk_size {b : BookV} (h : b.Wf) : (bookD b)[117]? = some (dI b.size) := bk_tail h 0
theorem bk_top {b : BookV} (h : b.Wf) : 118 + 2 ≤ (bookD b).length ∧ ((bookD b).drop 118).take 2 = [dI b.tT, dI b.tA] := by
  refine ⟨by rw [h.len]; omega, ?_⟩
  apply List.ext_getElem?
  intro i
  rw [List.getElem?_take]
  split
  · rename_i hi
    rw [List.getElem?_drop, show 118 + i = 117 + (1 + i) by omega, bk_tail h]
    match i, hi with
    | 0, _ => rfl
    | 1, _ => rfl
  · rw [List.getElem?_eq_none]; simp; omega
theorem splice_one {old : List DV} {f : Nat} (d : DV) (h : f < old.length) : splice old f [d] = old.set f d := by
  unfold splice
  rw [List.set_eq_take_append_cons_drop, if_pos h]
  simp
theorem splice_two {old : List DV} {f : Nat} (d e : DV) (h : f + 1 < old.length) : splice old f [d, e] = (old.set f d).set (f + 1) e := by
  unfold splice
  apply List.ext_getElem?
  intro i
  rw [List.getElem?_set, List.getElem?_set]
  simp only [List.length_set]
  rcases Nat.lt_trichotomy i f with g | g | g
  · rw [if_neg (by omega), if_neg (by omega), List.append_assoc, List.getElem?_append_left (by simp; omega), List.getElem?_take, if_pos g]
  · subst g
    rw [if_neg (by omega), if_pos rfl, if_pos (by omega), List.append_assoc, List.getElem?_append_right (by simp; omega)]
    simp [show min i old.length = i by omega]
  · by_cases g2 : i = f + 1
    · subst g2
      rw [if_pos rfl, if_pos h, List.append_assoc, List.getElem?_append_right (by simp; omega)]
      simp [show min f old.length = f by omega]
    · rw [if_neg (by omega), if_neg (by omega), List.getElem?_append_right (by simp; omega), List.getElem?_drop]
      congr 1; simp; omega
theorem bk_setOf {b : BookV} (h : b.Wf) {a : Nat} (ha : a < 16) (l : List OpV) (n : Nat) (hn : n = l.length) : splice ((bookD b).set a .no) a [.ow 12 0 n (l.map oD)] = bookD { b with of := b.of.set a l } := by
  subst hn
  have h1 := h.of
  rw [splice_one _ (by simp [h.len]; omega), List.set_set]
  simp only [bookD]
  rw [List.set_append_left _ _ (by simp; omega), List.map_set]
theorem bk_setKd {b : BookV} (h : b.Wf) {j : Nat} (hj : j < 101) (x : Int) : splice (bookD b) (16 + j) [dI x] = bookD { b with kd := b.kd.set j x } := by
  have h1 := h.of; have h2 := h.kd
  rw [splice_one _ (by simp [h.len]; omega)]
  simp only [bookD]
  rw [List.set_append_right _ _ (by simp; omega), List.set_append_left _ _ (by simp; omega), List.map_set]
  congr 3; simp; omega
theorem bk_setSize {b : BookV} (h : b.Wf) (x : Int) : splice (bookD b) 117 [dI x] = bookD { b with size := x } := by
  have h1 := h.of; have h2 := h.kd
  rw [splice_one _ (by simp [h.len])]
  simp only [bookD]
  rw [List.set_append_right _ _ (by simp; omega), List.set_append_right _ _ (by simp; omega)]
  simp [h1, h2]
theorem bk_setTop {b : BookV} (h : b.Wf) (t a : Int) : splice (bookD b) 118 [dI t, dI a] = bookD { b with tT := t, tA := a } := by
  have h1 := h.of; have h2 := h.kd
  rw [splice_two _ _ (by simp [h.len])]
  simp only [bookD]
  rw [List.set_append_right _ _ (by simp; omega), List.set_append_right _ _ (by simp; omega), List.set_append_right _ _ (by simp; omega), List.set_append_right _ _ (by simp; omega)]
  simp [h1, h2]
theorem bkl_setOf {b : BookV} (h : b.Wf) {a : Nat} (ha : a < 16) (l : List OpV) (n : Nat) (hn : n = l.length) : [(bookD b).set a .no].set 0 (splice ((bookD b).set a .no) a [.ow 12 0 n (l.map oD)]) = [bookD { b with of := b.of.set a l }] := by
  rw [List.set_cons_zero, bk_setOf h ha l n hn]
theorem bkl_setKd {b : BookV} (h : b.Wf) {j : Nat} (hj : j < 101) (x : Int) : [bookD b].set 0 (splice (bookD b) (16 + j) [dI x]) = [bookD { b with kd := b.kd.set j x }] := by
  rw [List.set_cons_zero, bk_setKd h hj x]
theorem bkl_setSize {b : BookV} (h : b.Wf) (x : Int) : [bookD b].set 0 (splice (bookD b) 117 [dI x]) = [bookD { b with size := x }] := by
  rw [List.set_cons_zero, bk_setSize h x]
theorem bkl_setTop {b : BookV} (h : b.Wf) (t a : Int) : [bookD b].set 0 (splice (bookD b) 118 [dI t, dI a]) = [bookD { b with tT := t, tA := a }] := by
  rw [List.set_cons_zero, bk_setTop h t a]
theorem bookD_zero : bookD BookV.zero = List.replicate 16 (.ow 12 0 0 []) ++ List.replicate 104 (dI 0) := by
  simp only [bookD, BookV.zero]
  rfl
theorem i_thing (o : OpV) : CallD Try.prog id_impl_Op_thing [vO o] [] (vI .i64 (thI o.kind)) [] := by
  refine F_impl_Op_thing ?_
  try (conv => whnf)
  repeat' (first
    | (refine SeqJ.thru ?_; conv => whnf)
    | (refine br_dec (fun _ => ?_) (fun _ => ?_) <;> first | (exfalso; omega) | contradiction | conv => whnf)
    | (refine br_not ?_; conv => whnf)
    | (refine br_bne (fun _ => ?_) (fun _ => ?_) <;> first | (exfalso; omega) | contradiction | conv => whnf)
    | (refine br_beq (fun _ => ?_) (fun _ => ?_) <;> first | (exfalso; omega) | contradiction | conv => whnf))
  all_goals
    refine Out.mk true [] [] ?_
    try (conv => whnf)
  · exact ⟨by rw [thI, if_pos (by omega)], rfl⟩
  · exact ⟨by rw [thI, if_neg (by omega)], rfl⟩
theorem BookV.Wf.put {b : BookV} (h : b.Wf) (o : OpV) : (b.put o).Wf := ⟨by simp [BookV.put, h.of], by simp [BookV.put, h.kd]⟩
theorem i_put (b : BookV) (hb : b.Wf) (o : OpV) (ha : actOk o.actor) (ho : 1 ≤ o.obj ∧ o.obj ≤ 100) (hn : (b.of.getD o.actor.toNat []).length ≤ 2 ^ 20) (hs : 0 ≤ b.size ∧ b.size ≤ 2 ^ 40) :
    CallN Try.prog id_impl_book_put [.one (.ep (.v 0) 120 0 0), vO o] [.own 120 [bookD b]] [] (.tup []) [.own 120 [bookD (b.put o)]] := by
  refine F_impl_book_put ?_
  obtain ⟨a0, a1⟩ := ha
  have w1 : ({ b with of := b.of.set o.actor.toNat (b.of.getD o.actor.toNat [] ++ [o]) } : BookV).Wf := ⟨by simp [hb.of], hb.kd⟩
  have w2 : ({ b with of := b.of.set o.actor.toNat (b.of.getD o.actor.toNat [] ++ [o]), kd := b.kd.set o.obj.toNat (thI o.kind) } : BookV).Wf := ⟨by simp [hb.of], by simp [hb.kd]⟩
  have w3 : ({ b with of := b.of.set o.actor.toNat (b.of.getD o.actor.toNat [] ++ [o]), kd := b.kd.set o.obj.toNat (thI o.kind), size := b.size + 1 } : BookV).Wf := ⟨by simp [hb.of], by simp [hb.kd]⟩
  try (conv => whnf)
  repeat (first
    | (refine Need.mk ?_ ?_; (focus (first | omega | (simp only [List.length_map, List.length_append, List.length_cons, List.length_nil, List.length_replicate]; omega) | rfl | (first | exact fz_self _ _ (fun _ => rfl) | exact fz_pl rfl | (refine Fz.append ?_ ?_ <;> first | exact fz_self _ _ (fun _ => rfl) | exact fz_pl rfl) | (refine Fz.append (Fz.append ?_ ?_) ?_ <;> first | exact fz_self _ _ (fun _ => rfl) | exact fz_pl rfl)) | ((conv => whnf); (repeat (first | (refine Need.mk (by first | rfl | omega | (simp; done)) ?_; conv => whnf) | (refine Pick.mk ?_ ?_ ?_; rotate_left; (focus (first | with_reducible exact xor_u8 _ _ | (with_reducible refine xor_i64 ?_ ?_; all_goals omega) | (with_reducible refine xor_u32 ?_ ?_; all_goals omega) | exact map_snoc oD _ _ | (dsimp only; refine wid ?_ ?_ <;> omega) | (refine bkl_setTop ?_ _ _; assumption) | (refine bkl_setSize ?_ _; assumption) | (refine bkl_setKd ?_ ?_ _ <;> first | assumption | omega) | (refine bkl_setOf ?_ ?_ _ _ ?_ <;> first | assumption | omega | (simp; done)) | (refine bk_top ?_; assumption) | (with_reducible refine bk_size ?_; assumption) | (with_reducible refine bk_kd ?_ ?_ <;> first | assumption | omega) | (with_reducible refine bk_of ?_ ?_ <;> first | assumption | omega) | assumption | with_reducible exact set_byN _ _ _ _ | with_reducible exact set_byI _ _ _ _ | with_reducible exact set_inN _ _ _ _ | with_reducible exact set_inI _ _ _ _ | with_reducible exact set_stN _ _ _ _ | with_reducible exact set_tsN _ _ _ _ | with_reducible exact set_tsI _ _ _ _ | with_reducible exact set_boN _ _ _ _ | with_reducible exact set_boI _ _ _ _ | (with_reducible refine get_mapN _ _ _ ?_; first | omega | (simp; omega)) | (with_reducible refine get_mapI _ _ _ ?_ ?_ <;> first | omega | (simp; omega)) | exact bs_beq _ _ | exact bs_less _ _ | exact bs_leq _ _ | with_reducible exact bs_app _ _ | (refine bs_get _ _ ?_; omega) | (refine bs_int _ _ ?_ ?_ <;> omega) | with_reducible exact sl_map0 _ _ _ | with_reducible exact sl_mapN _ _ _ | with_reducible exact sl_map _ _ _ _ | exact bs_extract0 _ _ | exact bs_extractN _ _ | exact bs_extract _ _ _ | (refine bnd_id ?_; omega) | (refine bnd_sub ?_ ?_ <;> omega) | (refine bnd_add ?_; omega) | (refine bnd_subN ?_ ?_ <;> omega) | (refine bnd_int ?_ ?_ <;> omega) | ((show @Eq Nat (_ + Int.toNat _ * _) _); simp only [Int.toNat_natCast, Nat.zero_add, Nat.mul_one]; rfl) | ((show @Eq (List _) (List.set [_] _ _) _); simp only [List.set_cons_zero]; rfl) | exact List.length_map _ | exact size_bs _ | (simp only [List.length_map, List.length_append, List.length_cons, List.length_nil, List.length_replicate, Nat.zero_add]; rfl) | with_reducible exact List.nil_append _ | with_reducible exact map_app _ _ _ | exact map_snoc byD _ _ | exact map_snoc inD _ _ | exact map_snoc stD _ _ | exact map_snoc tsD _ _ | (simp only [chunks]; rfl) | (refine wid ?_ ?_ <;> omega) | exact wby _ | with_reducible exact wby32 _ | with_reducible exact wu32 _ | exact wby64 _ | exact shr8 _ | exact shr16 _ | exact shr24 _ | exact shr32 _ | (refine tmodn ?_; omega) | (refine wdiv ?_ ?_ ?_ <;> omega) | exact wbyte _ | exact natlit _ | exact rep_by _ | exact rep_in _ | exact rep_bo _ | exact rep_st _ | (refine pick_nat _ _ _ ?_; omega) | (refine pick_int _ _ _ ?_ ?_ <;> omega) | (refine SlOf.full ?_; first | (simp; done) | (simp; omega)) | (with_reducible refine SlOf.pre _ _ ?_; first | omega | (simp; omega)) | (refine SlF.self _ _ ?_ ?_; (first | rfl | omega | (simp; done) | (simp; omega)); (exact fun _ => rfl)) | (refine SlF.pre _ _ ?_ ?_; (first | omega | (simp; omega)); (exact fun _ => rfl)) | (refine SlF.same ?_ ?_; (first | rfl | omega | (simp; done) | (simp; omega)); (first | exact fz_self _ _ (fun _ => rfl) | exact fz_pl rfl | (refine Fz.append ?_ ?_ <;> first | exact fz_self _ _ (fun _ => rfl) | exact fz_pl rfl) | (refine Fz.append (Fz.append ?_ ?_) ?_ <;> first | exact fz_self _ _ (fun _ => rfl) | exact fz_pl rfl))) | (simp only [Int.toNat_natCast, Nat.zero_add, Nat.mul_one]; rfl) | ((fail_if_success (show @Eq (Option _) _ _)); rfl) | ((show @Eq (Option _) _ _); simp only [List.getElem?_cons_zero, List.getElem?_cons_succ]; done) | ((show @Eq (Option _) _ _); simp only [List.getElem?_cons_zero, List.getElem?_cons_succ]; rfl) | with_reducible rfl)); conv => whnf))); exact Done.mk trivial))); conv => whnf)
    | (refine Pick.mk ?_ ?_ ?_; rotate_left; (focus (first | exact map_snoc oD _ _ | (refine bkl_setOf ?_ ?_ _ _ ?_ <;> first | assumption | omega | (simp; done)) | (with_reducible refine bk_of ?_ ?_ <;> first | assumption | omega) | ((show @Eq Nat (_ + Int.toNat _ * _) _); simp only [Int.toNat_natCast, Nat.zero_add, Nat.mul_one]; rfl) | ((show @Eq (List _) (List.set [_] _ _) _); simp only [List.set_cons_zero]; rfl) | (simp only [List.length_map, List.length_append, List.length_cons, List.length_nil, List.length_replicate, Nat.zero_add]; rfl) | (simp only [chunks]; rfl) | (refine SlOf.full ?_; first | (simp; done) | (simp; omega)) | ((show @Eq (Option _) _ _); simp only [List.getElem?_cons_zero, List.getElem?_cons_succ]; rfl))); conv => whnf)
    | (refine OwnQ.mk true ?_; conv => whnf))
  refine Hand.mk [] ?_
  try (conv => whnf)
  refine CallW.d (i_thing o) ?_
  try (conv => whnf)
  repeat (first
    | (refine Need.mk ?_ ?_; (focus (first | omega | (simp only [List.length_map, List.length_append, List.length_cons, List.length_nil, List.length_replicate]; omega) | ((conv => whnf); (repeat (first | (refine Need.mk (by first | rfl | omega | (simp; done)) ?_; conv => whnf) | (refine Pick.mk ?_ ?_ ?_; rotate_left; (focus (first | with_reducible exact xor_u8 _ _ | (with_reducible refine xor_i64 ?_ ?_; all_goals omega) | (with_reducible refine xor_u32 ?_ ?_; all_goals omega) | exact map_snoc oD _ _ | (dsimp only; refine wid ?_ ?_ <;> omega) | (refine bkl_setTop ?_ _ _; assumption) | (refine bkl_setSize ?_ _; assumption) | (refine bkl_setKd ?_ ?_ _ <;> first | assumption | omega) | (refine bkl_setOf ?_ ?_ _ _ ?_ <;> first | assumption | omega | (simp; done)) | (refine bk_top ?_; assumption) | (with_reducible refine bk_size ?_; assumption) | (with_reducible refine bk_kd ?_ ?_ <;> first | assumption | omega) | (with_reducible refine bk_of ?_ ?_ <;> first | assumption | omega) | assumption | with_reducible exact set_byN _ _ _ _ | with_reducible exact set_byI _ _ _ _ | with_reducible exact set_inN _ _ _ _ | with_reducible exact set_inI _ _ _ _ | with_reducible exact set_stN _ _ _ _ | with_reducible exact set_tsN _ _ _ _ | with_reducible exact set_tsI _ _ _ _ | with_reducible exact set_boN _ _ _ _ | with_reducible exact set_boI _ _ _ _ | (with_reducible refine get_mapN _ _ _ ?_; first | omega | (simp; omega)) | (with_reducible refine get_mapI _ _ _ ?_ ?_ <;> first | omega | (simp; omega)) | exact bs_beq _ _ | exact bs_less _ _ | exact bs_leq _ _ | with_reducible exact bs_app _ _ | (refine bs_get _ _ ?_; omega) | (refine bs_int _ _ ?_ ?_ <;> omega) | with_reducible exact sl_map0 _ _ _ | with_reducible exact sl_mapN _ _ _ | with_reducible exact sl_map _ _ _ _ | exact bs_extract0 _ _ | exact bs_extractN _ _ | exact bs_extract _ _ _ | (refine bnd_id ?_; omega) | (refine bnd_sub ?_ ?_ <;> omega) | (refine bnd_add ?_; omega) | (refine bnd_subN ?_ ?_ <;> omega) | (refine bnd_int ?_ ?_ <;> omega) | ((show @Eq Nat (_ + Int.toNat _ * _) _); simp only [Int.toNat_natCast, Nat.zero_add, Nat.mul_one]; rfl) | ((show @Eq (List _) (List.set [_] _ _) _); simp only [List.set_cons_zero]; rfl) | exact List.length_map _ | exact size_bs _ | (simp only [List.length_map, List.length_append, List.length_cons, List.length_nil, List.length_replicate, Nat.zero_add]; rfl) | with_reducible exact List.nil_append _ | with_reducible exact map_app _ _ _ | exact map_snoc byD _ _ | exact map_snoc inD _ _ | exact map_snoc stD _ _ | exact map_snoc tsD _ _ | (simp only [chunks]; rfl) | (refine wid ?_ ?_ <;> omega) | exact wby _ | with_reducible exact wby32 _ | with_reducible exact wu32 _ | exact wby64 _ | exact shr8 _ | exact shr16 _ | exact shr24 _ | exact shr32 _ | (refine tmodn ?_; omega) | (refine wdiv ?_ ?_ ?_ <;> omega) | exact wbyte _ | exact natlit _ | exact rep_by _ | exact rep_in _ | exact rep_bo _ | exact rep_st _ | (refine pick_nat _ _ _ ?_; omega) | (refine pick_int _ _ _ ?_ ?_ <;> omega) | (refine SlOf.full ?_; first | (simp; done) | (simp; omega)) | (with_reducible refine SlOf.pre _ _ ?_; first | omega | (simp; omega)) | (refine SlF.self _ _ ?_ ?_; (first | rfl | omega | (simp; done) | (simp; omega)); (exact fun _ => rfl)) | (refine SlF.pre _ _ ?_ ?_; (first | omega | (simp; omega)); (exact fun _ => rfl)) | (refine SlF.same ?_ ?_; (first | rfl | omega | (simp; done) | (simp; omega)); (first | exact fz_self _ _ (fun _ => rfl) | exact fz_pl rfl | (refine Fz.append ?_ ?_ <;> first | exact fz_self _ _ (fun _ => rfl) | exact fz_pl rfl) | (refine Fz.append (Fz.append ?_ ?_) ?_ <;> first | exact fz_self _ _ (fun _ => rfl) | exact fz_pl rfl))) | (simp only [Int.toNat_natCast, Nat.zero_add, Nat.mul_one]; rfl) | ((fail_if_success (show @Eq (Option _) _ _)); rfl) | ((show @Eq (Option _) _ _); simp only [List.getElem?_cons_zero, List.getElem?_cons_succ]; done) | ((show @Eq (Option _) _ _); simp only [List.getElem?_cons_zero, List.getElem?_cons_succ]; rfl) | with_reducible rfl)); conv => whnf))); exact Done.mk trivial))); conv => whnf)
    | (refine Pick.mk ?_ ?_ ?_; rotate_left; (focus (first | (dsimp only; refine wid ?_ ?_ <;> omega) | (refine bkl_setSize ?_ _; assumption) | (refine bkl_setKd ?_ ?_ _ <;> first | assumption | omega) | (refine bk_top ?_; assumption) | (with_reducible refine bk_size ?_; assumption) | ((show @Eq Nat (_ + Int.toNat _ * _) _); simp only [Int.toNat_natCast, Nat.zero_add, Nat.mul_one]; rfl) | (simp only [List.length_map, List.length_append, List.length_cons, List.length_nil, List.length_replicate, Nat.zero_add]; rfl) | ((show @Eq (Option _) _ _); simp only [List.getElem?_cons_zero, List.getElem?_cons_succ]; rfl))); conv => whnf))
  refine Hand.mk [] ?_
  try (conv => whnf)
  refine CallW.d (i_stamp o) ?_
  try (conv => whnf)
  repeat (refine Need.mk ?_ ?_; (focus (((conv => whnf); (repeat (first | (refine Need.mk (by first | rfl | omega | (simp; done)) ?_; conv => whnf) | (refine Pick.mk ?_ ?_ ?_; rotate_left; (focus (first | with_reducible exact xor_u8 _ _ | (with_reducible refine xor_i64 ?_ ?_; all_goals omega) | (with_reducible refine xor_u32 ?_ ?_; all_goals omega) | exact map_snoc oD _ _ | (dsimp only; refine wid ?_ ?_ <;> omega) | (refine bkl_setTop ?_ _ _; assumption) | (refine bkl_setSize ?_ _; assumption) | (refine bkl_setKd ?_ ?_ _ <;> first | assumption | omega) | (refine bkl_setOf ?_ ?_ _ _ ?_ <;> first | assumption | omega | (simp; done)) | (refine bk_top ?_; assumption) | (with_reducible refine bk_size ?_; assumption) | (with_reducible refine bk_kd ?_ ?_ <;> first | assumption | omega) | (with_reducible refine bk_of ?_ ?_ <;> first | assumption | omega) | assumption | with_reducible exact set_byN _ _ _ _ | with_reducible exact set_byI _ _ _ _ | with_reducible exact set_inN _ _ _ _ | with_reducible exact set_inI _ _ _ _ | with_reducible exact set_stN _ _ _ _ | with_reducible exact set_tsN _ _ _ _ | with_reducible exact set_tsI _ _ _ _ | with_reducible exact set_boN _ _ _ _ | with_reducible exact set_boI _ _ _ _ | (with_reducible refine get_mapN _ _ _ ?_; first | omega | (simp; omega)) | (with_reducible refine get_mapI _ _ _ ?_ ?_ <;> first | omega | (simp; omega)) | exact bs_beq _ _ | exact bs_less _ _ | exact bs_leq _ _ | with_reducible exact bs_app _ _ | (refine bs_get _ _ ?_; omega) | (refine bs_int _ _ ?_ ?_ <;> omega) | with_reducible exact sl_map0 _ _ _ | with_reducible exact sl_mapN _ _ _ | with_reducible exact sl_map _ _ _ _ | exact bs_extract0 _ _ | exact bs_extractN _ _ | exact bs_extract _ _ _ | (refine bnd_id ?_; omega) | (refine bnd_sub ?_ ?_ <;> omega) | (refine bnd_add ?_; omega) | (refine bnd_subN ?_ ?_ <;> omega) | (refine bnd_int ?_ ?_ <;> omega) | ((show @Eq Nat (_ + Int.toNat _ * _) _); simp only [Int.toNat_natCast, Nat.zero_add, Nat.mul_one]; rfl) | ((show @Eq (List _) (List.set [_] _ _) _); simp only [List.set_cons_zero]; rfl) | exact List.length_map _ | exact size_bs _ | (simp only [List.length_map, List.length_append, List.length_cons, List.length_nil, List.length_replicate, Nat.zero_add]; rfl) | with_reducible exact List.nil_append _ | with_reducible exact map_app _ _ _ | exact map_snoc byD _ _ | exact map_snoc inD _ _ | exact map_snoc stD _ _ | exact map_snoc tsD _ _ | (simp only [chunks]; rfl) | (refine wid ?_ ?_ <;> omega) | exact wby _ | with_reducible exact wby32 _ | with_reducible exact wu32 _ | exact wby64 _ | exact shr8 _ | exact shr16 _ | exact shr24 _ | exact shr32 _ | (refine tmodn ?_; omega) | (refine wdiv ?_ ?_ ?_ <;> omega) | exact wbyte _ | exact natlit _ | exact rep_by _ | exact rep_in _ | exact rep_bo _ | exact rep_st _ | (refine pick_nat _ _ _ ?_; omega) | (refine pick_int _ _ _ ?_ ?_ <;> omega) | (refine SlOf.full ?_; first | (simp; done) | (simp; omega)) | (with_reducible refine SlOf.pre _ _ ?_; first | omega | (simp; omega)) | (refine SlF.self _ _ ?_ ?_; (first | rfl | omega | (simp; done) | (simp; omega)); (exact fun _ => rfl)) | (refine SlF.pre _ _ ?_ ?_; (first | omega | (simp; omega)); (exact fun _ => rfl)) | (refine SlF.same ?_ ?_; (first | rfl | omega | (simp; done) | (simp; omega)); (first | exact fz_self _ _ (fun _ => rfl) | exact fz_pl rfl | (refine Fz.append ?_ ?_ <;> first | exact fz_self _ _ (fun _ => rfl) | exact fz_pl rfl) | (refine Fz.append (Fz.append ?_ ?_) ?_ <;> first | exact fz_self _ _ (fun _ => rfl) | exact fz_pl rfl))) | (simp only [Int.toNat_natCast, Nat.zero_add, Nat.mul_one]; rfl) | ((fail_if_success (show @Eq (Option _) _ _)); rfl) | ((show @Eq (Option _) _ _); simp only [List.getElem?_cons_zero, List.getElem?_cons_succ]; done) | ((show @Eq (Option _) _ _); simp only [List.getElem?_cons_zero, List.getElem?_cons_succ]; rfl) | with_reducible rfl)); conv => whnf))); exact Done.mk trivial))); conv => whnf)
  refine Hand.mk [] ?_
  try (conv => whnf)
  refine CallW.d (i_StampLess b.tT b.tA o.time o.actor) ?_
  try (conv => whnf)
  try (conv => whnf)
  repeat' (first
    | (refine br_dec (fun _ => ?_) (fun _ => ?_) <;> first | (exfalso; omega) | contradiction | conv => whnf)
    | (refine br_not ?_; conv => whnf)
    | (refine br_bne (fun _ => ?_) (fun _ => ?_) <;> first | (exfalso; omega) | contradiction | conv => whnf)
    | (refine br_beq (fun _ => ?_) (fun _ => ?_) <;> first | (exfalso; omega) | contradiction | conv => whnf))
  · rename_i hlt
    refine Hand.mk [] ?_
    try (conv => whnf)
    refine CallW.d (i_stamp o) ?_
    try (conv => whnf)
    repeat (first
      | (refine Need.mk ?_ ?_; (focus ((simp only [List.length_map, List.length_append, List.length_cons, List.length_nil, List.length_replicate]; omega))); conv => whnf)
      | (refine Pick.mk ?_ ?_ ?_; rotate_left; (focus (first | (refine bkl_setTop ?_ _ _; assumption) | (simp only [List.length_map, List.length_append, List.length_cons, List.length_nil, List.length_replicate, Nat.zero_add]; rfl))); conv => whnf))
    refine Out.mk false [0, 1, 2, 3, 4] [] ?_
    try (conv => whnf)
    exact ⟨rfl, by simp only [BookV.put, if_pos hlt]⟩
  · rename_i hlt
    refine Out.mk false [0, 1, 2, 3, 4] [] ?_
    try (conv => whnf)
    exact ⟨rfl, by simp only [BookV.put, if_neg hlt]⟩
end Go.Proofs.Ytpdjehnlejjfmaa.D
