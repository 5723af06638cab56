/- States of several entries joined, plainly. -/
import Derived.Test.YtpdjehnlejjfmaaJ5
set_option linter.unusedVariables false
set_option linter.unusedSimpArgs false
namespace Go.Proofs.Ytpdjehnlejjfmaa.D
open Go.RowKit
set_option maxRecDepth 100000
set_option linter.unusedVariables false
set_option linter.unusedSimpArgs false

theorem bl_irrefl : ∀ x : List UInt8, Op.bytesLess x x = false
 | [] => rfl
 | a :: x => by simp [Op.bytesLess, bl_irrefl x]
theorem bl_cons (a b : UInt8) (x y : List UInt8) : Op.bytesLess (a :: x) (b :: y) = true ↔ a.toNat < b.toNat ∨ a = b ∧ Op.bytesLess x y = true := by
 simp only [Op.bytesLess, Bool.or_eq_true, Bool.and_eq_true, beq_iff_eq, decide_eq_true_eq, UInt8.lt_iff_toNat_lt]
theorem bl_trans : ∀ x y z : List UInt8, Op.bytesLess x y = true → Op.bytesLess y z = true → Op.bytesLess x z = true
 | [], [], _, h, _ => by simp [Op.bytesLess] at h
 | _, _ :: _, [], _, h => by simp [Op.bytesLess] at h
 | _ :: _, [], _, h, _ => by simp [Op.bytesLess] at h
 | [], _ :: _, _ :: _, _, _ => by simp [Op.bytesLess]
 |a :: x, b :: y, c :: z, h, g => by
  rw [bl_cons] at h g ⊢
  rcases h with h | ⟨rfl, h⟩ <;> rcases g with g | ⟨rfl, g⟩
  ·exact .inl (by omega)
  ·exact .inl h
  ·exact .inl g
  ·exact .inr ⟨rfl, bl_trans x y z h g⟩
theorem bl_tri : ∀ x y : List UInt8, Op.bytesLess x y = true ∨ x = y ∨ Op.bytesLess y x = true
 | [], [] => .inr (.inl rfl)
 | [], _ :: _ => .inl rfl
 | _ :: _, [] => .inr (.inr rfl)
 |a :: x, b :: y => by
  rw [bl_cons, bl_cons]
  rcases Nat.lt_trichotomy a.toNat b.toNat with h | h | h
  ·exact .inl (.inl h)
  ·have e : a = b := UInt8.toNat_inj.1 h
   subst e
   rcases bl_tri x y with g | g | g
   ·exact .inl (.inr ⟨rfl, g⟩)
   ·exact .inr (.inl (by rw [g]))
   ·exact .inr (.inr (.inr ⟨rfl, g⟩))
  ·exact .inr (.inr (.inl h))
theorem bl_asymm {x y : List UInt8} (h : Op.bytesLess x y = true) : Op.bytesLess y x = false := by
 cases g : Op.bytesLess y x with
 | false => rfl
 | true => have := bl_trans _ _ _ h g; rw [bl_irrefl] at this; simp at this
theorem bl_gt (x y : List UInt8) : (!(Op.bytesLess x y || decide (x = y))) = Op.bytesLess y x := by
 rcases bl_tri x y with h | h | h
 ·rw [h, bl_asymm h]; rfl
 ·subst h; rw [bl_irrefl]; simp
 ·rw [h, bl_asymm h]
  have : x ≠ y := by rintro rfl; rw [bl_irrefl] at h; simp at h
  simp [this]
def mx (x y : List UInt8) : List UInt8 := if Op.bytesLess x y then y else x
theorem mx_self (x : List UInt8) : mx x x = x := by simp [mx]
theorem mx_comm (x y : List UInt8) : mx x y = mx y x := by
 unfold mx
 rcases bl_tri x y with h | h | h
 ·rw [if_pos h, if_neg (by rw [bl_asymm h]; simp)]
 ·subst h; rfl
 ·rw [if_pos h, if_neg (by rw [bl_asymm h]; simp)]
theorem mx_assoc (x y z : List UInt8) : mx (mx x y) z = mx x (mx y z) := by
 unfold mx
 by_cases h1 : Op.bytesLess x y = true <;> by_cases h2 : Op.bytesLess y z = true
 ·rw [if_pos h1, if_pos h2, if_pos (bl_trans _ _ _ h1 h2)]
 ·rw [if_pos h1, if_neg h2, if_pos h1]
 ·rw [if_neg h1, if_pos h2]
 ·rw [if_neg h1, if_neg h2, if_neg h1]
  rw [if_neg]
  intro h3
  rcases bl_tri y x with h | h | h
  ·exact h2 (bl_trans _ _ _ h h3)
  ·subst h; exact h2 h3
  ·exact h1 h
theorem mx_len {x y : List UInt8} {n : Nat} (h : x.length ≤ n) (g : y.length ≤ n) : (mx x y).length ≤ n := by unfold mx; split <;> assumption
abbrev eLt (e f : EntV) : Prop := stLt e.t e.a f.t f.a
theorem stLt_trans {t a u b v c : Int} (h : stLt t a u b) (g : stLt u b v c) : stLt t a v c := by unfold stLt at *; omega
theorem stLt_irrefl (t a : Int) : ¬ stLt t a t a := by unfold stLt; omega
theorem stLt_tri (t a u b : Int) : stLt t a u b ∨ (t = u ∧ a = b) ∨ stLt u b t a := by unfold stLt; omega
abbrev Srt (l : List EntV) : Prop := l.Pairwise eLt
theorem srt_of : ∀ {l : List EntV}, (∀ j (h : j < l.length), 0 < j → eLt (l[j - 1]'(by omega)) l[j]) → Srt l
 | [], _ => .nil
 |e :: l, h => by
  have ih : Srt l := srt_of fun j hj h0 => by
   have := h (j + 1) (by simpa using hj) (by omega)
   obtain ⟨k, rfl⟩ : ∃ k, j = k + 1 := ⟨j - 1, by omega⟩
   simpa using this
  refine List.pairwise_cons.2 ⟨fun f hf => ?_, ih⟩
  cases l with
  | nil => simp at hf
  | cons g l =>
   have h1 : eLt e g := by have := h 1 (by simp) (by omega); simpa using this
   rcases List.mem_cons.1 hf with rfl | hf
   ·exact h1
   ·exact stLt_trans h1 (List.rel_of_pairwise_cons ih hf)
theorem stOk_srt {s : List Int} {l : List EntV} (h : StOk s l) : Srt l := srt_of fun j hj h0 => (h.2.2 j hj).2.2.2 h0
theorem stOk_all {s : List Int} {l : List EntV} (h : StOk s l) : ∀ e ∈ l, stOk e.t e.a ∧ e.x.length ≤ 200 ∧ e.t ≤ s.getD e.a.toNat 0 := fun e he => by
 obtain ⟨j, hj, rfl⟩ := List.mem_iff_getElem.1 he
 have := h.2.2 j hj
 exact ⟨this.1, this.2.1, this.2.2.1⟩
theorem stOk_mk {s : List Int} {l : List EntV} (h1 : VecOk s) (h2 : l.length ≤ 256) (h3 : ∀ e ∈ l, stOk e.t e.a ∧ e.x.length ≤ 200 ∧ e.t ≤ s.getD e.a.toNat 0) (h4 : Srt l) : StOk s l :=
 ⟨h1, h2, fun j hj => ⟨(h3 _ (List.getElem_mem hj)).1, (h3 _ (List.getElem_mem hj)).2.1, (h3 _ (List.getElem_mem hj)).2.2, fun h0 => List.pairwise_iff_getElem.1 h4 _ _ (by omega) hj (by omega)⟩⟩
def fnd : List EntV → Int → Int → Option (List UInt8)
 | [], _, _ => none
 | e :: l, t, a => if e.t = t ∧ e.a = a then some e.x else fnd l t a
theorem fnd_none {l : List EntV} {t a : Int} : (∀ e ∈ l, ¬ (e.t = t ∧ e.a = a)) → fnd l t a = none := by
 induction l with
 | nil => intro _; rfl
 | cons e l ih => intro h; rw [fnd, if_neg (h e (by simp)), ih fun f hf => h f (by simp [hf])]
theorem fnd_mem {l : List EntV} {t a : Int} {x : List UInt8} (h : fnd l t a = some x) : ⟨t, a, x⟩ ∈ l := by
 induction l with
 | nil => simp [fnd] at h
 | cons e l ih =>
  rw [fnd] at h
  split at h
  ·rename_i g; obtain ⟨rfl, rfl⟩ := g; simp at h; subst h; simp
  ·simp [ih h]
theorem fnd_self {l : List EntV} (hs : Srt l) : ∀ {e : EntV}, e ∈ l → fnd l e.t e.a = some e.x := by
 induction l with
 | nil => intro e he; simp at he
 | cons f l ih =>
  intro e he
  rw [fnd]
  rcases List.mem_cons.1 he with rfl | he
  ·rw [if_pos ⟨rfl, rfl⟩]
  ·rw [if_neg, ih (List.pairwise_cons.1 hs).2 he]
   rintro ⟨g1, g2⟩
   have := (List.pairwise_cons.1 hs).1 e he
   unfold eLt at this
   rw [g1, g2] at this
   exact stLt_irrefl _ _ this
theorem fnd_below {l : List EntV} {t a : Int} (h : ∀ f ∈ l, stLt t a f.t f.a) : fnd l t a = none := fnd_none fun f hf ⟨g1, g2⟩ => by have := h f hf; rw [g1, g2] at this; exact stLt_irrefl _ _ this
theorem srt_ext : ∀ {l m : List EntV}, Srt l → Srt m → (∀ t a, fnd l t a = fnd m t a) → l = m
 | [], [], _, _, _ => rfl
 | [], f :: m, _, _, h => by have := h f.t f.a; simp [fnd] at this
 | e :: l, [], _, _, h => by have := h e.t e.a; simp [fnd] at this
 |e :: l, f :: m, hl, hm, h => by
  have hl1 := List.pairwise_cons.1 hl
  have hm1 := List.pairwise_cons.1 hm
  have e1 := h e.t e.a
  have e2 := h f.t f.a
  rw [fnd, if_pos ⟨rfl, rfl⟩] at e1
  rw [fnd.eq_def (f :: m)] at e2
  simp only [and_self, if_true] at e2
  have hef : e.t = f.t ∧ e.a = f.a := by
   rcases stLt_tri e.t e.a f.t f.a with g | g | g
   ·rw [fnd_below (l := f :: m) (fun k hk => by
     rcases List.mem_cons.1 hk with rfl | hk
     ·exact g
     ·exact stLt_trans g (hm1.1 k hk))] at e1
    simp at e1
   ·exact g
   ·rw [fnd_below (l := e :: l) (fun k hk => by
     rcases List.mem_cons.1 hk with rfl | hk
     ·exact g
     ·exact stLt_trans g (hl1.1 k hk))] at e2
    simp at e2
  rw [fnd, if_pos ⟨hef.1.symm, hef.2.symm⟩] at e1
  have hee : e = f := by
   obtain ⟨t, a, x⟩ := e
   obtain ⟨u, b, y⟩ := f
   simp only at hef e1
   obtain ⟨rfl, rfl⟩ := hef
   simp at e1
   subst e1; rfl
  subst hee
  rw [srt_ext hl1.2 hm1.2 fun t a => ?_]
  have := h t a
  rw [fnd, fnd] at this
  split at this
  ·rename_i g
   obtain ⟨rfl, rfl⟩ := g
   rw [fnd_below hl1.1, fnd_below hm1.1]
  ·exact this
def jf (A B : List Int) (x y : Option (List UInt8)) (t a : Int) : Option (List UInt8) :=
 match x, y with
 | some x, some y => some (mx x y)
 | some x, none => if B.getD a.toNat 0 < t then some x else none
 | none, some y => if A.getD a.toNat 0 < t then some y else none
 | none, none => none
def keep (B : List Int) (e : EntV) (l : List EntV) : List EntV := if B.getD e.a.toNat 0 < e.t then e :: l else l
def mg (A B : List Int) : List EntV → List EntV → List EntV
 | [], [] => []
 | e :: a, [] => keep B e (mg A B a [])
 | [], f :: b => keep A f (mg A B [] b)
 | e :: a, f :: b => if eLt e f then keep B e (mg A B a (f :: b)) else if eLt f e then keep A f (mg A B (e :: a) b) else ⟨e.t, e.a, mx e.x f.x⟩ :: mg A B a b
termination_by a b => a.length + b.length
theorem mg_nil (A B : List Int) : mg A B [] [] = [] := by rw [mg]
theorem mg_left (A B : List Int) (e : EntV) (a : List EntV) : mg A B (e :: a) [] = keep B e (mg A B a []) := by rw [mg]
theorem mg_right (A B : List Int) (f : EntV) (b : List EntV) : mg A B [] (f :: b) = keep A f (mg A B [] b) := by rw [mg]
theorem mg_lt (A B : List Int) {e f : EntV} (a b : List EntV) (h : eLt e f) : mg A B (e :: a) (f :: b) = keep B e (mg A B a (f :: b)) := by rw [mg, if_pos h]
theorem mg_gt (A B : List Int) {e f : EntV} (a b : List EntV) (h1 : ¬ eLt e f) (h : eLt f e) : mg A B (e :: a) (f :: b) = keep A f (mg A B (e :: a) b) := by rw [mg, if_neg h1, if_pos h]
theorem mg_eq (A B : List Int) {e f : EntV} (a b : List EntV) (h1 : ¬ eLt e f) (h : ¬ eLt f e) : mg A B (e :: a) (f :: b) = ⟨e.t, e.a, mx e.x f.x⟩ :: mg A B a b := by rw [mg, if_neg h1, if_neg h]
theorem keep_mem {B : List Int} {e g : EntV} {l : List EntV} (h : g ∈ keep B e l) : g = e ∨ g ∈ l := by
 unfold keep at h
 split at h
 ·exact List.mem_cons.1 h
 ·exact .inr h
theorem mg_mem (A B : List Int) : ∀ (a b : List EntV) (g : EntV), g ∈ mg A B a b → (∃ e ∈ a, g.t = e.t ∧ g.a = e.a) ∨ (∃ f ∈ b, g.t = f.t ∧ g.a = f.a)
 | [], [], g, h => by rw [mg_nil] at h; simp at h
 |e :: a, [], g, h => by
  rw [mg_left] at h
  rcases keep_mem h with rfl | h
  ·exact .inl ⟨g, by simp, rfl, rfl⟩
  ·exact (mg_mem A B a [] g h).imp (fun ⟨x, hx, k⟩ => ⟨x, by simp [hx], k⟩) id
 |[], f :: b, g, h => by
  rw [mg_right] at h
  rcases keep_mem h with rfl | h
  ·exact .inr ⟨g, by simp, rfl, rfl⟩
  ·exact (mg_mem A B [] b g h).imp id (fun ⟨x, hx, k⟩ => ⟨x, by simp [hx], k⟩)
 |e :: a, f :: b, g, h => by
  by_cases h1 : eLt e f
  ·rw [mg_lt A B a b h1] at h
   rcases keep_mem h with rfl | h
   ·exact .inl ⟨g, by simp, rfl, rfl⟩
   ·exact (mg_mem A B a (f :: b) g h).imp (fun ⟨x, hx, k⟩ => ⟨x, by simp [hx], k⟩) id
  ·by_cases h2 : eLt f e
   ·rw [mg_gt A B a b h1 h2] at h
    rcases keep_mem h with rfl | h
    ·exact .inr ⟨g, by simp, rfl, rfl⟩
    ·exact (mg_mem A B (e :: a) b g h).imp id (fun ⟨x, hx, k⟩ => ⟨x, by simp [hx], k⟩)
   ·rw [mg_eq A B a b h1 h2] at h
    rcases List.mem_cons.1 h with rfl | h
    ·exact .inl ⟨e, by simp, rfl, rfl⟩
    ·exact (mg_mem A B a b g h).imp (fun ⟨x, hx, k⟩ => ⟨x, by simp [hx], k⟩) (fun ⟨x, hx, k⟩ => ⟨x, by simp [hx], k⟩)
termination_by a b => a.length + b.length
theorem keep_srt {B : List Int} {e : EntV} {l : List EntV} (h : ∀ g ∈ l, eLt e g) (hl : Srt l) : Srt (keep B e l) := by
 unfold keep
 split
 ·exact List.pairwise_cons.2 ⟨h, hl⟩
 ·exact hl
theorem keep_fnd (B : List Int) (e : EntV) (l : List EntV) (hn : fnd l e.t e.a = none) (t a : Int) : fnd (keep B e l) t a = if e.t = t ∧ e.a = a then (if B.getD a.toNat 0 < t then some e.x else none) else fnd l t a := by
 unfold keep
 by_cases h : B.getD e.a.toNat 0 < e.t
 ·rw [if_pos h, fnd]
  split
  ·rename_i g; obtain ⟨rfl, rfl⟩ := g; rw [if_pos h]
  ·rfl
 ·rw [if_neg h]
  split
  ·rename_i g; obtain ⟨rfl, rfl⟩ := g; rw [if_neg h, hn]
  ·rfl
theorem above_of {e : EntV} {A B : List Int} {a b : List EntV} (ha : ∀ f ∈ a, eLt e f) (hb : ∀ f ∈ b, eLt e f) : ∀ g ∈ mg A B a b, eLt e g := fun g hg => by
 rcases mg_mem A B a b g hg with ⟨f, hf, h1, h2⟩ | ⟨f, hf, h1, h2⟩
 ·have := ha f hf; unfold eLt at this ⊢; rw [h1, h2]; exact this
 ·have := hb f hf; unfold eLt at this ⊢; rw [h1, h2]; exact this
theorem mg_ok (A B : List Int) : ∀ (a b : List EntV), Srt a → Srt b → Srt (mg A B a b) ∧ ∀ t u, fnd (mg A B a b) t u = jf A B (fnd a t u) (fnd b t u) t u
 | [], [], _, _ => by rw [mg_nil]; exact ⟨.nil, fun _ _ => rfl⟩
 |e :: a, [], ha, hb => by
  have ha1 := List.pairwise_cons.1 ha
  obtain ⟨i1, i2⟩ := mg_ok A B a [] ha1.2 hb
  have hab := above_of (A := A) (B := B) (b := []) ha1.1 (by simp)
  rw [mg_left]
  refine ⟨keep_srt hab i1, fun t u => ?_⟩
  rw [keep_fnd _ _ _ (fnd_below hab), i2, fnd.eq_def (e :: a)]
  simp only
  split
  ·rename_i g; obtain ⟨rfl, rfl⟩ := g; rfl
  ·rfl
 |[], f :: b, ha, hb => by
  have hb1 := List.pairwise_cons.1 hb
  obtain ⟨i1, i2⟩ := mg_ok A B [] b ha hb1.2
  have hab := above_of (A := A) (B := B) (a := []) (by simp) hb1.1
  rw [mg_right]
  refine ⟨keep_srt hab i1, fun t u => ?_⟩
  rw [keep_fnd _ _ _ (fnd_below hab), i2, fnd.eq_def (f :: b)]
  simp only
  split
  ·rename_i g; obtain ⟨rfl, rfl⟩ := g; rfl
  ·rfl
 |e :: a, f :: b, ha, hb => by
  have ha1 := List.pairwise_cons.1 ha
  have hb1 := List.pairwise_cons.1 hb
  by_cases h1 : eLt e f
  ·obtain ⟨i1, i2⟩ := mg_ok A B a (f :: b) ha1.2 hb
   have hef : ∀ g ∈ f :: b, eLt e g := fun g hg => by
    rcases List.mem_cons.1 hg with rfl | hg
    ·exact h1
    ·exact stLt_trans h1 (hb1.1 g hg)
   have hab := above_of (A := A) (B := B) ha1.1 hef
   rw [mg_lt A B a b h1]
   refine ⟨keep_srt hab i1, fun t u => ?_⟩
   rw [keep_fnd _ _ _ (fnd_below hab), i2, fnd.eq_def (e :: a)]
   simp only
   split
   ·rename_i g; obtain ⟨rfl, rfl⟩ := g
    rw [fnd_below (l := f :: b) hef]; rfl
   ·rfl
  ·by_cases h2 : eLt f e
   ·obtain ⟨i1, i2⟩ := mg_ok A B (e :: a) b ha hb1.2
    have hef : ∀ g ∈ e :: a, eLt f g := fun g hg => by
     rcases List.mem_cons.1 hg with rfl | hg
     ·exact h2
     ·exact stLt_trans h2 (ha1.1 g hg)
    have hab := above_of (A := A) (B := B) hef hb1.1
    rw [mg_gt A B a b h1 h2]
    refine ⟨keep_srt hab i1, fun t u => ?_⟩
    rw [keep_fnd _ _ _ (fnd_below hab), i2, fnd.eq_def (f :: b)]
    simp only
    split
    ·rename_i g; obtain ⟨rfl, rfl⟩ := g
     rw [fnd_below (l := e :: a) hef]; rfl
    ·rfl
   ·obtain ⟨i1, i2⟩ := mg_ok A B a b ha1.2 hb1.2
    have he : e.t = f.t ∧ e.a = f.a := by rcases stLt_tri e.t e.a f.t f.a with g | g | g; exact absurd g h1; exact g; exact absurd g h2
    have hab : ∀ g ∈ mg A B a b, eLt e g := above_of ha1.1 fun g hg => by have := hb1.1 g hg; unfold eLt at this ⊢; rw [he.1, he.2]; exact this
    rw [mg_eq A B a b h1 h2]
    refine ⟨List.pairwise_cons.2 ⟨hab, i1⟩, fun t u => ?_⟩
    rw [fnd, i2, fnd.eq_def (e :: a), fnd.eq_def (f :: b)]
    simp only [← he.1, ← he.2]
    split <;> rfl
termination_by a b => a.length + b.length
theorem mg_all {A B : List Int} {a b : List EntV} (ha : ∀ e ∈ a, stOk e.t e.a ∧ e.x.length ≤ 200 ∧ e.t ≤ A.getD e.a.toNat 0) (hb : ∀ e ∈ b, stOk e.t e.a ∧ e.x.length ≤ 200 ∧ e.t ≤ B.getD e.a.toNat 0) (sa : Srt a) (sb : Srt b) :
  ∀ g ∈ mg A B a b, stOk g.t g.a ∧ g.x.length ≤ 200 ∧ (g.t ≤ A.getD g.a.toNat 0 ∨ g.t ≤ B.getD g.a.toNat 0) := fun g hg => by
 obtain ⟨s1, s2⟩ := mg_ok A B a b sa sb
 have h1 := fnd_self s1 hg
 rw [s2] at h1
 unfold jf at h1
 split at h1
 ·rename_i x y e1 e2
  have m1 := ha _ (fnd_mem e1)
  have m2 := hb _ (fnd_mem e2)
  simp only [Option.some.injEq] at h1
  exact ⟨m1.1, by rw [← h1]; exact mx_len m1.2.1 m2.2.1, .inl m1.2.2⟩
 ·rename_i x e1 e2
  have m1 := ha _ (fnd_mem e1)
  split at h1
  ·simp only [Option.some.injEq] at h1
   exact ⟨m1.1, by rw [← h1]; exact m1.2.1, .inl m1.2.2⟩
  ·simp at h1
 ·rename_i y e1 e2
  have m2 := hb _ (fnd_mem e2)
  split at h1
  ·simp only [Option.some.injEq] at h1
   exact ⟨m2.1, by rw [← h1]; exact m2.2.1, .inr m2.2.2⟩
  ·simp at h1
 ·simp at h1
theorem vmax_getD {A B : List Int} (h : A.length = B.length) (j : Nat) : (vmax A B).getD j 0 = if B.getD j 0 > A.getD j 0 then B.getD j 0 else A.getD j 0 := by
 rcases Nat.lt_or_ge j A.length with hj | hj
 ·have hb : j < B.length := by omega
  have hm : j < (vmax A B).length := by simp [vmax]; omega
  simp only [List.getD, List.getElem?_eq_getElem hm, List.getElem?_eq_getElem hj, List.getElem?_eq_getElem hb, Option.getD_some]
  simp [vmax]
 ·have hb : B.length ≤ j := by omega
  simp [vmax, List.getD, hj, hb, List.getElem?_eq_none hj, List.getElem?_eq_none hb, List.getElem?_zipWith]
theorem vmax_len {A B : List Int} (ha : A.length = 16) (hb : B.length = 16) : (vmax A B).length = 16 := by simp [vmax, ha, hb]
theorem vmax_ok {A B : List Int} (ha : VecOk A) (hb : VecOk B) : VecOk (vmax A B) := by
 refine ⟨vmax_len ha.1 hb.1, fun c hc => ?_⟩
 obtain ⟨j, hj, rfl⟩ := List.mem_iff_getElem.1 hc
 have hj' : j < 16 := by rw [vmax_len ha.1 hb.1] at hj; exact hj
 have h1 := ha.2 _ (List.getElem_mem (show j < A.length by rw [ha.1]; exact hj'))
 have h2 := hb.2 _ (List.getElem_mem (show j < B.length by rw [hb.1]; exact hj'))
 simp only [vmax, List.getElem_zipWith]
 split <;> assumption
theorem getD_ext {A B : List Int} (h : A.length = B.length) (g : ∀ j, A.getD j 0 = B.getD j 0) : A = B := by
 apply List.ext_getElem h
 intro j h1 h2
 have := g j
 simpa [List.getD, h1, h2] using this
theorem vmax_comm {A B : List Int} (h : A.length = B.length) : vmax A B = vmax B A := getD_ext (by simp [vmax, h]) fun j => by rw [vmax_getD h, vmax_getD h.symm]; split <;> split <;> omega
theorem vmax_assoc {A B C : List Int} (h : A.length = B.length) (g : B.length = C.length) : vmax (vmax A B) C = vmax A (vmax B C) := getD_ext (by simp [vmax, h, g]) fun j => by
 rw [vmax_getD (by simp [vmax, h, g]), vmax_getD h, vmax_getD (by simp [vmax, h, g]), vmax_getD g]; repeat' split <;> omega
noncomputable def jC (A : List Int) (a : List EntV) (B : List Int) (b : List EntV) : Int := if ¬ (StOk A a ∧ StOk B b) then 1 else if 256 < (mg A B a b).length then 11 else 0
noncomputable def jS (A : List Int) (a : List EntV) (B : List Int) (b : List EntV) : List Int := if jC A a B b = 0 then vmax A B else []
noncomputable def jE (A : List Int) (a : List EntV) (B : List Int) (b : List EntV) : List EntV := if jC A a B b = 0 then mg A B a b else []
theorem jC_zero {A B : List Int} {a b : List EntV} : jC A a B b = 0 ↔ (StOk A a ∧ StOk B b) ∧ (mg A B a b).length ≤ 256 := by
 unfold jC
 by_cases h : StOk A a ∧ StOk B b
 ·rw [if_neg (fun g => g h)]
  split
  ·constructor
   ·intro h; omega
   ·intro g; omega
  ·exact ⟨fun _ => ⟨h, by omega⟩, fun _ => rfl⟩
 ·rw [if_pos h]
  exact ⟨fun g => by omega, fun g => absurd g.1 h⟩
theorem join_ok {A B : List Int} {a b : List EntV} (ha : StOk A a) (hb : StOk B b) (hl : (mg A B a b).length ≤ 256) : StOk (vmax A B) (mg A B a b) := by
 refine stOk_mk (vmax_ok ha.1 hb.1) hl (fun e he => ?_) (mg_ok A B a b (stOk_srt ha) (stOk_srt hb)).1
 obtain ⟨h1, h2, h3⟩ := mg_all (stOk_all ha) (stOk_all hb) (stOk_srt ha) (stOk_srt hb) e he
 refine ⟨h1, h2, ?_⟩
 rw [vmax_getD (by rw [ha.1.1, hb.1.1])]
 split <;> omega
theorem fnd_le {A : List Int} {a : List EntV} (h : StOk A a) {t u : Int} {x : List UInt8} (hf : fnd a t u = some x) : t ≤ A.getD u.toNat 0 := (stOk_all h _ (fnd_mem hf)).2.2
theorem join_comm {A B : List Int} {a b : List EntV} (ha : StOk A a) (hb : StOk B b) : mg A B a b = mg B A b a := by
 obtain ⟨s1, f1⟩ := mg_ok A B a b (stOk_srt ha) (stOk_srt hb)
 obtain ⟨s2, f2⟩ := mg_ok B A b a (stOk_srt hb) (stOk_srt ha)
 refine srt_ext s1 s2 fun t u => ?_
 rw [f1, f2]
 cases fnd a t u <;> cases fnd b t u <;> simp only [jf]
 rw [mx_comm]
theorem join_idem {A B : List Int} {a b : List EntV} (ha : StOk A a) (hb : StOk B b) : mg (vmax A B) B (mg A B a b) b = mg A B a b := by
 obtain ⟨s1, f1⟩ := mg_ok A B a b (stOk_srt ha) (stOk_srt hb)
 obtain ⟨s2, f2⟩ := mg_ok (vmax A B) B (mg A B a b) b s1 (stOk_srt hb)
 refine srt_ext s2 s1 fun t u => ?_
 rw [f2, f1]
 have hv := vmax_getD (A := A) (B := B) (by rw [ha.1.1, hb.1.1]) u.toNat
 have g2 : ∀ x, fnd b t u = some x → t ≤ B.getD u.toNat 0 := fun x hx => fnd_le hb hx
 cases h1 : fnd a t u <;> cases h2 : fnd b t u <;> simp only [jf]
 ·have := g2 _ h2
  by_cases h3 : A.getD u.toNat 0 < t
  ·rw [if_pos h3]; simp only [mx_self]
  ·rw [if_neg h3]; simp only
   rw [if_neg]
   rw [hv]; split <;> omega
 ·by_cases h3 : B.getD u.toNat 0 < t
  ·simp only [if_pos h3]
  ·simp only [if_neg h3]
 ·rw [mx_assoc, mx_self]
theorem join_assoc {P Q R : List Int} {p q r : List EntV} (hp : StOk P p) (hq : StOk Q q) (hr : StOk R r) : mg (vmax P Q) R (mg P Q p q) r = mg P (vmax Q R) p (mg Q R q r) := by
 obtain ⟨s1, f1⟩ := mg_ok P Q p q (stOk_srt hp) (stOk_srt hq)
 obtain ⟨s2, f2⟩ := mg_ok (vmax P Q) R (mg P Q p q) r s1 (stOk_srt hr)
 obtain ⟨s3, f3⟩ := mg_ok Q R q r (stOk_srt hq) (stOk_srt hr)
 obtain ⟨s4, f4⟩ := mg_ok P (vmax Q R) p (mg Q R q r) (stOk_srt hp) s3
 refine srt_ext s2 s4 fun t u => ?_
 rw [f2, f4, f1, f3]
 have hv1 := vmax_getD (A := P) (B := Q) (by rw [hp.1.1, hq.1.1]) u.toNat
 have hv2 := vmax_getD (A := Q) (B := R) (by rw [hq.1.1, hr.1.1]) u.toNat
 have g1 : ∀ x, fnd p t u = some x → t ≤ P.getD u.toNat 0 := fun x hx => fnd_le hp hx
 have g2 : ∀ x, fnd q t u = some x → t ≤ Q.getD u.toNat 0 := fun x hx => fnd_le hq hx
 have g3 : ∀ x, fnd r t u = some x → t ≤ R.getD u.toNat 0 := fun x hx => fnd_le hr hx
 have e1 : P.getD u.toNat 0 ≤ (vmax P Q).getD u.toNat 0 ∧ Q.getD u.toNat 0 ≤ (vmax P Q).getD u.toNat 0 ∧ ((vmax P Q).getD u.toNat 0 = P.getD u.toNat 0 ∨ (vmax P Q).getD u.toNat 0 = Q.getD u.toNat 0) := by split at hv1 <;> omega
 have e2 : Q.getD u.toNat 0 ≤ (vmax Q R).getD u.toNat 0 ∧ R.getD u.toNat 0 ≤ (vmax Q R).getD u.toNat 0 ∧ ((vmax Q R).getD u.toNat 0 = Q.getD u.toNat 0 ∨ (vmax Q R).getD u.toNat 0 = R.getD u.toNat 0) := by split at hv2 <;> omega
 clear hv1 hv2 f1 f2 f3 f4 s1 s2 s3 s4
 cases h1 : fnd p t u <;> cases h2 : fnd q t u <;> cases h3 : fnd r t u <;> simp only [jf]
 ·by_cases c1 : (vmax P Q).getD u.toNat 0 < t
  ·have : P.getD u.toNat 0 < t := by omega
   have : Q.getD u.toNat 0 < t := by omega
   simp only [if_pos, *]
  ·by_cases c2 : Q.getD u.toNat 0 < t
   ·have : ¬ P.getD u.toNat 0 < t := by omega
    simp only [c1, c2, this, if_true, if_false]
   ·simp only [c1, c2, if_false]
 ·have := g2 _ h2
  by_cases c1 : P.getD u.toNat 0 < t <;> by_cases c2 : R.getD u.toNat 0 < t <;> simp only [c1, c2, if_true, if_false]
 ·have := g2 _ h2
  have := g3 _ h3
  by_cases c1 : P.getD u.toNat 0 < t
  ·simp only [c1, if_true]
  ·have : ¬ (vmax P Q).getD u.toNat 0 < t := by omega
   simp only [c1, this, if_true, if_false]
 ·have := g1 _ h1
  by_cases c1 : Q.getD u.toNat 0 < t
  ·by_cases c2 : R.getD u.toNat 0 < t
   ·have : (vmax Q R).getD u.toNat 0 < t := by omega
    simp only [c1, c2, this, if_true]
   ·have : ¬ (vmax Q R).getD u.toNat 0 < t := by omega
    simp only [c1, c2, this, if_true, if_false]
  ·have : ¬ (vmax Q R).getD u.toNat 0 < t := by omega
   simp only [c1, this, if_false]
 ·have := g1 _ h1
  have := g3 _ h3
  by_cases c1 : Q.getD u.toNat 0 < t
  ·simp only [c1, if_true]
  ·have h4 : ¬ (vmax P Q).getD u.toNat 0 < t := by omega
   have h5 : ¬ (vmax Q R).getD u.toNat 0 < t := by omega
   simp only [c1, h4, h5, if_false]
 ·have := g2 _ h2
  by_cases c1 : R.getD u.toNat 0 < t
  ·simp only [c1, if_true]
  ·have h5 : ¬ (vmax Q R).getD u.toNat 0 < t := by omega
   simp only [c1, h5, if_false]
 ·rw [mx_assoc]
end Go.Proofs.Ytpdjehnlejjfmaa.D
/- States of several entries joined by the reference, plainly. -/
namespace Go.Proofs.Ytpdjehnlejjfmaa.D
open Go.RowKit
set_option maxRecDepth 100000
set_option linter.unusedVariables false
set_option linter.unusedSimpArgs false

theorem snoc_ind' {α : Type} {p : List α → Prop} (h0 : p []) (hs : ∀ l x, p l → p (l ++ [x])) : ∀ l, p l := by
 have : ∀ n (l : List α), l.length = n → p l := by
  intro n
  induction n with
  | zero => intro l hl; rw [List.eq_nil_of_length_eq_zero hl]; exact h0
  | succ n ih =>
   intro l hl
   have hne : l ≠ [] := by rintro rfl; simp at hl
   rw [← List.dropLast_concat_getLast hne]
   exact hs _ _ (ih _ (by simp [hl]))
 exact fun l => this _ l rfl
def insE : List EntV → EntV → List EntV
 | [], e => [e]
 | f :: l, e => if eLt f e then f :: insE l e else e :: f :: l
def nL : List EntV → EntV → Nat
 | [], _ => 0
 | f :: l, e => if eLt f e then nL l e + 1 else 0
theorem nL_le : ∀ (l : List EntV) (e : EntV), nL l e ≤ l.length
 | [], _ => by simp [nL]
 |f :: l, e => by
  have := nL_le l e
  simp only [nL]; split <;> simp; exact this
theorem insE_take : ∀ (l : List EntV) (e : EntV), insE l e = l.take (nL l e) ++ e :: l.drop (nL l e)
 | [], e => rfl
 |f :: l, e => by
  simp only [insE, nL]
  split
  ·rw [insE_take l e]; simp
  ·simp
theorem nL_lt : ∀ (l : List EntV) (e : EntV) (i : Nat) (hi : i < nL l e), eLt (l[i]'(Nat.lt_of_lt_of_le hi (nL_le l e))) e
 | [], e, i, hi => by simp [nL] at hi
 |f :: l, e, i, hi => by
  simp only [nL] at hi
  split at hi
  ·rename_i h
   cases i with
   | zero => simpa using h
   | succ i => simpa using nL_lt l e i (by omega)
  ·omega
theorem nL_at : ∀ (l : List EntV) (e : EntV) (h : nL l e < l.length), ¬ eLt l[nL l e] e
 | [], e, h => by simp at h
 |f :: l, e, h => by
  by_cases hf : eLt f e
  ·have e1 : nL (f :: l) e = nL l e + 1 := by simp only [nL]; rw [if_pos hf]
   have := nL_at l e (by rw [e1] at h; simpa using h)
   simpa only [e1, List.getElem_cons_succ] using this
  ·have e1 : nL (f :: l) e = 0 := by simp only [nL]; rw [if_neg hf]
   simpa only [e1, List.getElem_cons_zero] using hf
@[simp] theorem insE_length (l : List EntV) (e : EntV) : (insE l e).length = l.length + 1 := by
 have := nL_le l e
 rw [insE_take]; simp; omega
theorem insE_mem {l : List EntV} {e g : EntV} : g ∈ insE l e ↔ g = e ∨ g ∈ l := by
 induction l with
 | nil => simp [insE]
 | cons f l ih =>
  simp only [insE]
  split
  ·simp only [List.mem_cons, ih]; constructor
   ·rintro (h | h | h) <;> simp [h]
   ·rintro (h | h | h) <;> simp [h]
  ·simp only [List.mem_cons]
theorem insE_srt {l : List EntV} {e : EntV} (hl : Srt l) (hn : fnd l e.t e.a = none) : Srt (insE l e) := by
 induction l with
 | nil => simp [insE]
 | cons f l ih =>
  have h1 := List.pairwise_cons.1 hl
  rw [fnd] at hn
  split at hn
  ·simp at hn
  ·rename_i hne
   simp only [insE]
   split
   ·rename_i hlt
    refine List.pairwise_cons.2 ⟨fun g hg => ?_, ih h1.2 hn⟩
    rcases insE_mem.1 hg with rfl | hg
    ·exact hlt
    ·exact h1.1 g hg
   ·rename_i hlt
    have hef : eLt e f := by
     rcases stLt_tri f.t f.a e.t e.a with g | g | g
     ·exact absurd g hlt
     ·exact absurd g hne
     ·exact g
    refine List.pairwise_cons.2 ⟨fun g hg => ?_, hl⟩
    rcases List.mem_cons.1 hg with rfl | hg
    ·exact hef
    ·exact stLt_trans hef (h1.1 g hg)
theorem insE_fnd {l : List EntV} {e : EntV} (hn : fnd l e.t e.a = none) (t u : Int) : fnd (insE l e) t u = if e.t = t ∧ e.a = u then some e.x else fnd l t u := by
 induction l with
 | nil => simp [insE, fnd]
 | cons f l ih =>
  rw [fnd] at hn
  split at hn
  ·simp at hn
  ·rename_i hne
   simp only [insE]
   split
   ·rw [fnd, fnd, ih hn]
    split
    ·rename_i g
     rw [if_neg]
     rintro ⟨g1, g2⟩
     exact hne ⟨by rw [g.1, g1], by rw [g.2, g2]⟩
    ·rfl
   ·rw [fnd]
theorem fnd_app (l m : List EntV) (t u : Int) : fnd (l ++ m) t u = match fnd l t u with | some x => some x | none => fnd m t u := by
 induction l with
 | nil => rfl
 | cons e l ih =>
  rw [List.cons_append, fnd, fnd]
  split
  ·rfl
  ·exact ih
def stA (B : List Int) (b : List EntV) (acc : List EntV) (e : EntV) : List EntV :=
 match fnd b e.t e.a with
 | some y => insE acc ⟨e.t, e.a, mx e.x y⟩
 | none => if B.getD e.a.toNat 0 < e.t then insE acc e else acc
def stB (A : List Int) (a : List EntV) (acc : List EntV) (f : EntV) : List EntV :=
 if fnd a f.t f.a = none ∧ A.getD f.a.toNat 0 < f.t then insE acc f else acc
def jA (B : List Int) (a b : List EntV) : List EntV := a.foldl (stA B b) []
def jB (A B : List Int) (a b : List EntV) (c : List EntV) : List EntV := c.foldl (stB A a) (jA B a b)
theorem jA_snoc (B : List Int) (a b : List EntV) (e : EntV) : jA B (a ++ [e]) b = stA B b (jA B a b) e := by simp [jA]
theorem jB_snoc (A B : List Int) (a b c : List EntV) (f : EntV) : jB A B a b (c ++ [f]) = stB A a (jB A B a b c) f := by simp [jB]
theorem fnd_last {a : List EntV} {e : EntV} (h : Srt (a ++ [e])) : fnd a e.t e.a = none := fnd_none fun f hf ⟨g1, g2⟩ => by
 have := (List.pairwise_append.1 h).2.2 f hf e (by simp)
 unfold eLt at this
 rw [g1, g2] at this
 exact stLt_irrefl _ _ this
theorem jA_ok (A B : List Int) (b : List EntV) : ∀ (a : List EntV), Srt a → Srt (jA B a b) ∧ (jA B a b).length ≤ a.length ∧ ∀ t u, fnd (jA B a b) t u = match fnd a t u with | none => none | some x => jf A B (some x) (fnd b t u) t u := by
 intro a
 induction a using snoc_ind' with
 | h0 => intro _; exact ⟨.nil, by simp [jA], fun t u => rfl⟩
 | hs a e ih =>
  intro ha
  obtain ⟨i1, i0, i2⟩ := ih (List.pairwise_append.1 ha).1
  have hl := fnd_last ha
  have hn : fnd (jA B a b) e.t e.a = none := by rw [i2, hl]
  rw [jA_snoc]
  unfold stA
  cases hb : fnd b e.t e.a with
  | some y =>
   dsimp only
   refine ⟨insE_srt (e := ⟨e.t, e.a, mx e.x y⟩) i1 hn, by simp; omega, fun t u => ?_⟩
   rw [insE_fnd (e := ⟨e.t, e.a, mx e.x y⟩) hn, i2, fnd_app]
   dsimp only
   split
   ·rename_i g; obtain ⟨rfl, rfl⟩ := g
    rw [hl]
    simp only [fnd, and_self, if_true, jf, hb]
   ·rename_i g
    simp only [fnd, if_neg g]
    cases fnd a t u <;> rfl
  | none =>
   dsimp only
   by_cases hk : B.getD e.a.toNat 0 < e.t
   ·rw [if_pos hk]
    refine ⟨insE_srt i1 hn, by simp; omega, fun t u => ?_⟩
    rw [insE_fnd hn, i2, fnd_app]
    split
    ·rename_i g; obtain ⟨rfl, rfl⟩ := g
     rw [hl]
     simp only [fnd, and_self, if_true, jf, hb, if_pos hk]
    ·rename_i g
     simp only [fnd, if_neg g]
     cases fnd a t u <;> rfl
   ·rw [if_neg hk]
    refine ⟨i1, by simp; omega, fun t u => ?_⟩
    rw [i2, fnd_app]
    by_cases g : e.t = t ∧ e.a = u
    ·obtain ⟨rfl, rfl⟩ := g
     rw [hl]
     simp only [fnd, and_self, if_true, jf, hb, if_neg hk]
    ·simp only [fnd, if_neg g]
     cases fnd a t u <;> rfl
theorem jB_ok (A B : List Int) (a b : List EntV) (ha : Srt a) : ∀ (c : List EntV), Srt c → Srt (jB A B a b c) ∧ (jB A B a b c).length ≤ a.length + c.length ∧ ∀ t u, fnd (jB A B a b c) t u = match fnd a t u with | some x => jf A B (some x) (fnd b t u) t u | none => jf A B none (fnd c t u) t u := by
 intro c
 induction c using snoc_ind' with
 | h0 =>
  intro _
  obtain ⟨i1, i0, i2⟩ := jA_ok A B b a ha
  refine ⟨i1, by simp [jB]; omega, fun t u => ?_⟩
  rw [jB, List.foldl_nil, i2]
  cases fnd a t u <;> rfl
 | hs c f ih =>
  intro hc
  obtain ⟨i1, i0, i2⟩ := ih (List.pairwise_append.1 hc).1
  have hl := fnd_last hc
  rw [jB_snoc]
  unfold stB
  by_cases hk : fnd a f.t f.a = none ∧ A.getD f.a.toNat 0 < f.t
  ·rw [if_pos hk]
   have hn : fnd (jB A B a b c) f.t f.a = none := by rw [i2, hk.1, hl]; rfl
   refine ⟨insE_srt i1 hn, by simp; omega, fun t u => ?_⟩
   rw [insE_fnd hn, i2, fnd_app]
   split
   ·rename_i g; obtain ⟨rfl, rfl⟩ := g
    rw [hk.1, hl]
    simp only [fnd, and_self, if_true, jf, if_pos hk.2]
   ·rename_i g
    simp only [fnd, if_neg g]
    cases fnd a t u <;> cases fnd c t u <;> rfl
  ·rw [if_neg hk]
   refine ⟨i1, by simp; omega, fun t u => ?_⟩
   rw [i2, fnd_app]
   by_cases g : f.t = t ∧ f.a = u
   ·obtain ⟨rfl, rfl⟩ := g
    rw [hl]
    simp only [fnd, and_self, if_true]
    cases h : fnd a f.t f.a with
    | some x => rfl
    | none => simp only [jf]; rw [if_neg (fun g => hk ⟨h, g⟩)]
   ·simp only [fnd, if_neg g]
    cases fnd a t u <;> cases fnd c t u <;> rfl
theorem jB_mg (A B : List Int) {a b : List EntV} (ha : Srt a) (hb : Srt b) : jB A B a b b = mg A B a b := by
 obtain ⟨i1, _, i2⟩ := jB_ok A B a b ha b hb
 obtain ⟨j1, j2⟩ := mg_ok A B a b ha hb
 refine srt_ext i1 j1 fun t u => ?_
 rw [i2, j2]
 cases fnd a t u <;> rfl
end Go.Proofs.Ytpdjehnlejjfmaa.D
/- States of several entries joined, by the reference. -/
namespace Go.Proofs.Ytpdjehnlejjfmaa.D
open Go.RowKit
set_option maxRecDepth 100000
set_option maxHeartbeats 4000000
set_option linter.unusedVariables false
set_option linter.unusedSimpArgs false

abbrev cEn (e : EntV) : SV := .agg [cI e.t, cI e.a, cS (bs e.x)]
theorem bs_leqN (a b : List UInt8) : (Op.bytesLess (ByteArray.mk a.toArray).toList (ByteArray.mk b.toArray).toList || (ByteArray.mk a.toArray).toList == (ByteArray.mk b.toArray).toList) = !(Op.bytesLess b a) := by rw [bs_leq, ← bl_gt a b, Bool.not_not]
theorem s_l03Insert (l : List EntV) (e : EntV) (hl : l.length ≤ 2 ^ 20) : CallD Try.prog id_spec_l03Insert [vEs l, cEn e] [] (vEs (insE l e)) [] := by
 refine F_spec_l03Insert ?_
 try (conv => whnf)
 repeat (refine SeqJ.thru ?_; conv => whnf)
 refine LoopE.mk (fun i : Nat => mk [(0, vEs l), (3, .one (.ptr 4096 0)), (5, vI .i64 i)] [(4096, .box [cI e.t, cI e.a, cS (bs e.x)])]) (fun i => i ≤ nL l e) (fun i => nL l e - i) 0 (by omega) (LeX.of ?_) ?_
 ·try (conv => whnf)
  repeat (refine Need.mk ?_ ?_; (focus (first | omega | (simp; done))); conv => whnf)
  trivial
 ·intro i hi
  have hn := nL_le l e
  have hr := insE_take l e
  by_cases hlt : i < nL l e
  ·have h1 := nL_lt l e i hlt
   try (conv => whnf)
   repeat' (first
    | (refine Pick.mk ?_ ?_ ?_; rotate_left; (focus (first | exact List.length_map _ | (refine pick_nat _ _ _ ?_; omega))); conv => whnf)
    | (refine SeqJ.thru ?_; conv => whnf)
    | (refine br_dec (fun _ => ?_) (fun _ => ?_) <;> first | (exfalso; omega) | contradiction | conv => whnf)
    | (refine br_not ?_; conv => whnf)
    | (refine br_bne (fun _ => ?_) (fun _ => ?_) <;> first | (exfalso; omega) | contradiction | conv => whnf)
    | (refine br_beq (fun _ => ?_) (fun _ => ?_) <;> first | (exfalso; omega) | contradiction | conv => whnf))
   refine Hand.mk [] ?_
   try (conv => whnf)
   refine CallW.d (s_StampLess (l[i]'(by omega)).t (l[i]'(by omega)).a e.t e.a) ?_
   try (conv => whnf)
   try (conv => whnf)
   repeat' (first
    | (refine Pick.mk ?_ ?_ ?_; rotate_left; (focus ((refine wid ?_ ?_ <;> omega))); conv => whnf)
    | (refine br_dec (fun _ => ?_) (fun _ => ?_) <;> first | (exfalso; omega) | contradiction | conv => whnf)
    | (refine br_not ?_; conv => whnf)
    | (refine br_bne (fun _ => ?_) (fun _ => ?_) <;> first | (exfalso; omega) | contradiction | conv => whnf)
    | (refine br_beq (fun _ => ?_) (fun _ => ?_) <;> first | (exfalso; omega) | contradiction | conv => whnf))
   refine Pick.mk (i + 1) (by constructor <;> first | omega | (simp only []; omega)) (LeX.of ?_)
   try (conv => whnf)
   repeat (refine Need.mk ?_ ?_; (focus (first | omega | (simp; done))); conv => whnf)
   trivial
  ·have key : ∀ n, n = nL l e → n ≤ l.length ∧ (∀ h : n < l.length, ¬ eLt l[n] e) ∧ insE l e = l.take n ++ e :: l.drop n := by
    rintro _ rfl; exact ⟨nL_le l e, nL_at l e, insE_take l e⟩
   obtain ⟨k1, k2, k3⟩ := key i (by omega)
   clear key hr hn
   rcases Nat.lt_or_ge i l.length with hll | hll
   ·have h1 := k2 hll
    try (conv => whnf)
    repeat' (first
     | (refine Pick.mk ?_ ?_ ?_; rotate_left; (focus (first | exact List.length_map _ | (refine pick_nat _ _ _ ?_; omega))); conv => whnf)
     | (refine SeqJ.thru ?_; conv => whnf)
     | (refine br_dec (fun _ => ?_) (fun _ => ?_) <;> first | (exfalso; omega) | contradiction | conv => whnf)
     | (refine br_not ?_; conv => whnf)
     | (refine br_bne (fun _ => ?_) (fun _ => ?_) <;> first | (exfalso; omega) | contradiction | conv => whnf)
     | (refine br_beq (fun _ => ?_) (fun _ => ?_) <;> first | (exfalso; omega) | contradiction | conv => whnf))
    refine Hand.mk [] ?_
    try (conv => whnf)
    refine CallW.d (s_StampLess (l[i]'hll).t (l[i]'hll).a e.t e.a) ?_
    try (conv => whnf)
    try (conv => whnf)
    repeat' (first
     | (refine Need.mk ?_ ?_; (focus (first | exact len_en _ | (simp; omega))); conv => whnf)
     | (refine Pick.mk ?_ ?_ ?_; rotate_left; (focus (first | exact map_snoc entD _ _ | with_reducible exact sl_map0 _ _ _ | with_reducible exact sl_mapN _ _ _ | (refine bnd_id ?_; omega) | exact List.length_map _ | (simp only [List.length_map, List.length_append, List.length_cons, List.length_nil, List.length_replicate, Nat.zero_add]; rfl) | with_reducible exact List.nil_append _ | with_reducible exact map_app _ _ _ | (simp only [chunks]; rfl) | (refine SlOf.full ?_; first | (simp; done) | (simp; omega)))); conv => whnf)
     | (refine br_dec (fun _ => ?_) (fun _ => ?_) <;> first | (exfalso; omega) | contradiction | conv => whnf)
     | (refine br_not ?_; conv => whnf)
     | (refine br_bne (fun _ => ?_) (fun _ => ?_) <;> first | (exfalso; omega) | contradiction | conv => whnf)
     | (refine br_beq (fun _ => ?_) (fun _ => ?_) <;> first | (exfalso; omega) | contradiction | conv => whnf))
    refine Out.mk true [] [] ?_
    try (conv => whnf)
    repeat (first
     | (refine Need.mk ?_ ?_; (focus (exact flat_en _)); conv => whnf)
     | (refine Pick.mk ?_ ?_ ?_; rotate_left; (focus ((refine SlF.self _ _ ?_ ?_; (first | rfl | omega | (simp; done) | (simp; omega)); (exact fun _ => rfl)))); conv => whnf))
    exact ⟨by rw [k3]; simp, rfl⟩
   ·try (conv => whnf)
    repeat' (first
     | (refine Need.mk ?_ ?_; (focus (first | exact len_en _ | (simp; omega))); conv => whnf)
     | (refine Pick.mk ?_ ?_ ?_; rotate_left; (focus (first | exact map_snoc entD _ _ | with_reducible exact sl_map0 _ _ _ | with_reducible exact sl_mapN _ _ _ | (refine bnd_id ?_; omega) | exact List.length_map _ | (simp only [List.length_map, List.length_append, List.length_cons, List.length_nil, List.length_replicate, Nat.zero_add]; rfl) | with_reducible exact List.nil_append _ | with_reducible exact map_app _ _ _ | (simp only [chunks]; rfl) | (refine SlOf.full ?_; first | (simp; done) | (simp; omega)))); conv => whnf)
     | (refine SeqJ.thru ?_; conv => whnf)
     | (refine br_dec (fun _ => ?_) (fun _ => ?_) <;> first | (exfalso; omega) | contradiction | conv => whnf)
     | (refine br_not ?_; conv => whnf)
     | (refine br_bne (fun _ => ?_) (fun _ => ?_) <;> first | (exfalso; omega) | contradiction | conv => whnf)
     | (refine br_beq (fun _ => ?_) (fun _ => ?_) <;> first | (exfalso; omega) | contradiction | conv => whnf))
    refine Out.mk true [] [] ?_
    try (conv => whnf)
    repeat (first
     | (refine Need.mk ?_ ?_; (focus (exact flat_en _)); conv => whnf)
     | (refine Pick.mk ?_ ?_ ?_; rotate_left; (focus ((refine SlF.self _ _ ?_ ?_; (first | rfl | omega | (simp; done) | (simp; omega)); (exact fun _ => rfl)))); conv => whnf))
    exact ⟨by rw [k3]; simp, rfl⟩
def FndP (l : List EntV) (t a : Int) : SV → List Row → Prop := fun r Lo => ∃ k : Int, r = vI .i64 k ∧ Lo = [] ∧ ((k = -1 ∧ fnd l t a = none) ∨ ∃ j, ∃ h : j < l.length, k = j ∧ (l[j].t = t ∧ l[j].a = a) ∧ fnd l t a = some l[j].x)
theorem fnd_at {l : List EntV} {t a : Int} {i : Nat} (h : i < l.length) (hb : ∀ e ∈ l.take i, ¬ (e.t = t ∧ e.a = a)) (hi : l[i].t = t ∧ l[i].a = a) : fnd l t a = some l[i].x := by
 have e : fnd (l.take i ++ l.drop i) t a = some l[i].x := by
  rw [fnd_app, fnd_none hb]
  simp only
  rw [List.drop_eq_getElem_cons h, fnd, if_pos hi]
 rwa [List.take_append_drop] at e
theorem s_l03Find (l : List EntV) (t a : Int) (hl : l.length ≤ 2 ^ 40) : CallM Try.prog id_spec_l03Find [vEs l, vSt t a] [] [] true (FndP l t a) := by
 refine F_spec_l03Find ?_
 try (conv => whnf)
 refine LoopE.mk (fun i : Nat => mk [(0, vEs l), (3, .one (.ptr 4096 0)), (5, vI .i64 i)] [(4096, .box [cI t, cI a])]) (fun i => i ≤ l.length ∧ ∀ e ∈ l.take i, ¬ (e.t = t ∧ e.a = a)) (fun i => l.length - i) 0 ⟨by omega, by simp⟩ (LeX.of ?_) ?_
 ·try (conv => whnf)
  repeat (refine Need.mk ?_ ?_; (focus (first | omega | (simp; done))); conv => whnf)
  trivial
 ·rintro i ⟨hi, hb⟩
  rcases Nat.lt_or_ge i l.length with hlt | hge
  ·by_cases h1 : l[i].t = t
   ·by_cases h2 : l[i].a = a
    ·try (conv => whnf)
     repeat' (first
      | (refine Pick.mk ?_ ?_ ?_; rotate_left; (focus (first | exact List.length_map _ | (refine pick_nat _ _ _ ?_; omega))); conv => whnf)
      | (refine SeqJ.thru ?_; conv => whnf)
      | (refine br_dec (fun _ => ?_) (fun _ => ?_) <;> first | (exfalso; omega) | contradiction | conv => whnf)
      | (refine br_not ?_; conv => whnf)
      | (refine br_bne (fun _ => ?_) (fun _ => ?_) <;> first | (exfalso; omega) | contradiction | conv => whnf)
      | (refine br_beq (fun _ => ?_) (fun _ => ?_) <;> first | (exfalso; omega) | contradiction | conv => whnf)
      | (refine br_and ?_; conv => whnf))
     refine Out.mk true [] [] ?_
     try (conv => whnf)
     exact ⟨⟨_, rfl, rfl, .inr ⟨i, hlt, rfl, ⟨h1, h2⟩, fnd_at hlt hb ⟨h1, h2⟩⟩⟩⟩
    ·try (conv => whnf)
     repeat' (first
      | (refine Pick.mk ?_ ?_ ?_; rotate_left; (focus (first | exact List.length_map _ | (refine wid ?_ ?_ <;> omega) | (refine pick_nat _ _ _ ?_; omega))); conv => whnf)
      | (refine SeqJ.thru ?_; conv => whnf)
      | (refine br_dec (fun _ => ?_) (fun _ => ?_) <;> first | (exfalso; omega) | contradiction | conv => whnf)
      | (refine br_not ?_; conv => whnf)
      | (refine br_bne (fun _ => ?_) (fun _ => ?_) <;> first | (exfalso; omega) | contradiction | conv => whnf)
      | (refine br_beq (fun _ => ?_) (fun _ => ?_) <;> first | (exfalso; omega) | contradiction | conv => whnf)
      | (refine br_and ?_; conv => whnf))
     refine Pick.mk (i + 1) ⟨⟨by omega, all_next hlt hb fun g => h2 g.2⟩, by omega⟩ (LeX.of ?_)
     try (conv => whnf)
     repeat (refine Need.mk ?_ ?_; (focus (first | omega | (simp; done))); conv => whnf)
     trivial
   ·try (conv => whnf)
    repeat' (first
     | (refine Pick.mk ?_ ?_ ?_; rotate_left; (focus (first | exact List.length_map _ | (refine wid ?_ ?_ <;> omega) | (refine pick_nat _ _ _ ?_; omega))); conv => whnf)
     | (refine SeqJ.thru ?_; conv => whnf)
     | (refine br_dec (fun _ => ?_) (fun _ => ?_) <;> first | (exfalso; omega) | contradiction | conv => whnf)
     | (refine br_not ?_; conv => whnf)
     | (refine br_bne (fun _ => ?_) (fun _ => ?_) <;> first | (exfalso; omega) | contradiction | conv => whnf)
     | (refine br_beq (fun _ => ?_) (fun _ => ?_) <;> first | (exfalso; omega) | contradiction | conv => whnf)
     | (refine br_and ?_; conv => whnf))
    refine Pick.mk (i + 1) ⟨⟨by omega, all_next hlt hb fun g => h1 g.1⟩, by omega⟩ (LeX.of ?_)
    try (conv => whnf)
    repeat (refine Need.mk ?_ ?_; (focus (first | omega | (simp; done))); conv => whnf)
    trivial
  ·try (conv => whnf)
   repeat' (first
    | (refine Pick.mk ?_ ?_ ?_; rotate_left; (focus (exact List.length_map _)); conv => whnf)
    | (refine SeqJ.thru ?_; conv => whnf)
    | (refine br_dec (fun _ => ?_) (fun _ => ?_) <;> first | (exfalso; omega) | contradiction | conv => whnf)
    | (refine br_not ?_; conv => whnf)
    | (refine br_bne (fun _ => ?_) (fun _ => ?_) <;> first | (exfalso; omega) | contradiction | conv => whnf)
    | (refine br_beq (fun _ => ?_) (fun _ => ?_) <;> first | (exfalso; omega) | contradiction | conv => whnf)
    | (refine br_and ?_; conv => whnf))
   refine Out.mk true [] [] ?_
   try (conv => whnf)
   exact ⟨⟨_, rfl, rfl, .inl ⟨rfl, fnd_none (all_end hb (by omega))⟩⟩⟩
theorem actSeen {s : List Int} {a : Int} (h : VecOk s) (ha : actOk a) : a.toNat < s.length ∧ 0 ≤ a := ⟨(seen_at h ha).1, ha.1⟩
theorem s_l03Join (A : List Int) (a : List EntV) (B : List Int) (b : List EntV) (ha : StOk A a) (hb : StOk B b) : CallN Try.prog id_spec_l03Join [vV A, vEs a, vV B, vEs b] [] [] (vEs (mg A B a b)) [] := by
 refine F_spec_l03Join ?_
 have hal := ha.2.1
 have hbl := hb.2.1
 have hA := ha.1.1
 have hB := hb.1.1
 have sa := stOk_srt ha
 have sb := stOk_srt hb
 try (conv => whnf)
 repeat (refine Pick.mk ?_ ?_ ?_; rotate_left; (focus ((simp only [chunks]; rfl))); conv => whnf)
 refine LoopE.mk (fun x : Nat × List EntV => mk [(1, vEs a), (3, vEs b), (4, .one (.ptr 4096 0)), (6, .one (.ptr 4112 0)), (9, vEs x.2), (10, vI .i64 x.1)] [(4096, .box [cN A]), (4112, .box [cN B])]) (fun x => x.1 ≤ a.length ∧ x.2 = jA B (a.take x.1) b) (fun x => a.length - x.1) (0, []) ⟨by simp, by simp [jA]⟩ (LeX.of ?_) ?_
 ·try (conv => whnf)
  repeat (refine Need.mk ?_ ?_; (focus ((simp; done))); conv => whnf)
  refine Need.mk (SlF.self ([] : List EntV) entD rfl (fun _ => rfl)) ?_
  try (conv => whnf)
  repeat (refine Need.mk ?_ ?_; (focus (first | omega | (simp; done))); conv => whnf)
  trivial
 ·rintro ⟨i, acc⟩ ⟨hi, hacc⟩
  dsimp only at hi hacc ⊢
  have hlen : acc.length ≤ 256 := by
   have h1 := (jA_ok A B b (a.take i) (List.Pairwise.sublist (List.take_sublist _ _) sa)).2.1
   rw [← hacc] at h1; simp at h1; omega
  rcases Nat.lt_or_ge i a.length with hlt | hge
  ·have hst : jA B (a.take (i + 1)) b = stA B b acc a[i] := by rw [List.take_succ_eq_append_getElem hlt, jA_snoc, hacc]
   have hok := (ha.2.2 i hlt).1.2
   obtain ⟨q1, q2⟩ := actSeen hb.1 hok
   have q3 : B.getD a[i].a.toNat 0 = B[a[i].a.toNat] := (seen_at hb.1 hok).2
   try (conv => whnf)
   repeat' (first
    | (refine Pick.mk ?_ ?_ ?_; rotate_left; (focus (first | exact List.length_map _ | (refine pick_nat _ _ _ ?_; omega))); conv => whnf)
    | (refine SeqJ.thru ?_; conv => whnf)
    | (refine br_dec (fun _ => ?_) (fun _ => ?_) <;> first | (exfalso; omega) | contradiction | conv => whnf)
    | (refine br_not ?_; conv => whnf)
    | (refine br_bne (fun _ => ?_) (fun _ => ?_) <;> first | (exfalso; omega) | contradiction | conv => whnf)
    | (refine br_beq (fun _ => ?_) (fun _ => ?_) <;> first | (exfalso; omega) | contradiction | conv => whnf))
   refine Hand.mk [] ?_
   try (conv => whnf)
   refine CallW.n (s_l03Find b a[i].t a[i].a (by omega)) ?_
   rintro _ _ ⟨k, rfl, rfl, hk⟩
   rcases hk with ⟨rfl, hf⟩ | ⟨j, hj, rfl, ⟨e1, e2⟩, hf⟩
   ·unfold stA at hst
    rw [hf] at hst
    dsimp only at hst
    rw [q3] at hst
    by_cases hk : B[a[i].a.toNat] < a[i].t
    ·rw [if_pos hk] at hst
     try (conv => whnf)
     repeat' (first
      | (refine Pick.mk ?_ ?_ ?_; rotate_left; (focus ((refine pick_int _ _ _ ?_ ?_ <;> omega))); conv => whnf)
      | (refine SeqJ.thru ?_; conv => whnf)
      | (refine br_dec (fun _ => ?_) (fun _ => ?_) <;> first | (exfalso; omega) | contradiction | conv => whnf)
      | (refine br_not ?_; conv => whnf)
      | (refine br_bne (fun _ => ?_) (fun _ => ?_) <;> first | (exfalso; omega) | contradiction | conv => whnf)
      | (refine br_beq (fun _ => ?_) (fun _ => ?_) <;> first | (exfalso; omega) | contradiction | conv => whnf))
     refine Hand.mk [] ?_
     try (conv => whnf)
     refine CallW.d (s_l03Insert acc a[i] (by omega)) ?_
     try (conv => whnf)
     repeat (refine Pick.mk ?_ ?_ ?_; rotate_left; (focus ((refine wid ?_ ?_ <;> omega))); conv => whnf)
     refine Pick.mk (i + 1, insE acc a[i]) ⟨⟨by dsimp only; omega, hst.symm⟩, by dsimp only; omega⟩ (LeX.of ?_)
     try (conv => whnf)
     repeat (refine Need.mk ?_ ?_; (focus (first | omega | (simp; done))); conv => whnf)
     trivial
    ·rw [if_neg hk] at hst
     try (conv => whnf)
     repeat' (first
      | (refine Pick.mk ?_ ?_ ?_; rotate_left; (focus (first | (refine wid ?_ ?_ <;> omega) | (refine pick_int _ _ _ ?_ ?_ <;> omega))); conv => whnf)
      | (refine SeqJ.thru ?_; conv => whnf)
      | (refine br_dec (fun _ => ?_) (fun _ => ?_) <;> first | (exfalso; omega) | contradiction | conv => whnf)
      | (refine br_not ?_; conv => whnf)
      | (refine br_bne (fun _ => ?_) (fun _ => ?_) <;> first | (exfalso; omega) | contradiction | conv => whnf)
      | (refine br_beq (fun _ => ?_) (fun _ => ?_) <;> first | (exfalso; omega) | contradiction | conv => whnf))
     refine Pick.mk (i + 1, acc) ⟨⟨by dsimp only; omega, hst.symm⟩, by dsimp only; omega⟩ (LeX.of ?_)
     try (conv => whnf)
     repeat (refine Need.mk ?_ ?_; (focus (first | omega | (simp; done))); conv => whnf)
     trivial
   ·unfold stA at hst
    rw [hf] at hst
    dsimp only at hst
    cases hx : Op.bytesLess a[i].x b[j].x
    ·rw [mx, if_neg (by rw [hx]; simp)] at hst
     try (conv => whnf)
     repeat' (first
      | (refine Pick.mk ?_ ?_ ?_; rotate_left; (focus (first | with_reducible exact bs_leqN _ _ | (refine pick_nat _ _ _ ?_; omega))); conv => whnf)
      | (refine SeqJ.thru ?_; conv => whnf)
      | (refine br_dec (fun _ => ?_) (fun _ => ?_) <;> first | (exfalso; omega) | contradiction | conv => whnf)
      | (refine br_not ?_; conv => whnf)
      | (refine br_bne (fun _ => ?_) (fun _ => ?_) <;> first | (exfalso; omega) | contradiction | conv => whnf)
      | (refine br_beq (fun _ => ?_) (fun _ => ?_) <;> first | (exfalso; omega) | contradiction | conv => whnf))
     refine br_false hx ?_
     try (conv => whnf)
     repeat' (first
      | (refine br_dec (fun _ => ?_) (fun _ => ?_) <;> first | (exfalso; omega) | contradiction | conv => whnf)
      | (refine br_not ?_; conv => whnf)
      | (refine br_bne (fun _ => ?_) (fun _ => ?_) <;> first | (exfalso; omega) | contradiction | conv => whnf)
      | (refine br_beq (fun _ => ?_) (fun _ => ?_) <;> first | (exfalso; omega) | contradiction | conv => whnf))
     refine Hand.mk [] ?_
     try (conv => whnf)
     refine CallW.d (s_l03Insert acc a[i] (by omega)) ?_
     try (conv => whnf)
     repeat (refine Pick.mk ?_ ?_ ?_; rotate_left; (focus ((refine wid ?_ ?_ <;> omega))); conv => whnf)
     refine Pick.mk (i + 1, insE acc a[i]) ⟨⟨by dsimp only; omega, hst.symm⟩, by dsimp only; omega⟩ (LeX.of ?_)
     try (conv => whnf)
     repeat (refine Need.mk ?_ ?_; (focus (first | omega | (simp; done))); conv => whnf)
     trivial
    ·rw [mx, if_pos hx] at hst
     try (conv => whnf)
     repeat' (first
      | (refine Pick.mk ?_ ?_ ?_; rotate_left; (focus (first | with_reducible exact bs_leqN _ _ | (refine pick_nat _ _ _ ?_; omega))); conv => whnf)
      | (refine SeqJ.thru ?_; conv => whnf)
      | (refine br_dec (fun _ => ?_) (fun _ => ?_) <;> first | (exfalso; omega) | contradiction | conv => whnf)
      | (refine br_not ?_; conv => whnf)
      | (refine br_bne (fun _ => ?_) (fun _ => ?_) <;> first | (exfalso; omega) | contradiction | conv => whnf)
      | (refine br_beq (fun _ => ?_) (fun _ => ?_) <;> first | (exfalso; omega) | contradiction | conv => whnf))
     refine br_true hx ?_
     try (conv => whnf)
     repeat' (first
      | (refine Pick.mk ?_ ?_ ?_; rotate_left; (focus ((refine pick_nat _ _ _ ?_; omega))); conv => whnf)
      | (refine br_dec (fun _ => ?_) (fun _ => ?_) <;> first | (exfalso; omega) | contradiction | conv => whnf)
      | (refine br_not ?_; conv => whnf)
      | (refine br_bne (fun _ => ?_) (fun _ => ?_) <;> first | (exfalso; omega) | contradiction | conv => whnf)
      | (refine br_beq (fun _ => ?_) (fun _ => ?_) <;> first | (exfalso; omega) | contradiction | conv => whnf))
     have hbj : (⟨a[i].t, a[i].a, b[j].x⟩ : EntV) = b[j] := by rw [← e1, ← e2]
     rw [hbj] at hst
     refine Hand.mk [] ?_
     try (conv => whnf)
     refine CallW.d (s_l03Insert acc b[j] (by omega)) ?_
     try (conv => whnf)
     repeat (refine Pick.mk ?_ ?_ ?_; rotate_left; (focus ((refine wid ?_ ?_ <;> omega))); conv => whnf)
     refine Pick.mk (i + 1, insE acc b[j]) ⟨⟨by dsimp only; omega, hst.symm⟩, by dsimp only; omega⟩ (LeX.of ?_)
     try (conv => whnf)
     repeat (refine Need.mk ?_ ?_; (focus (first | omega | (simp; done))); conv => whnf)
     trivial
  ·obtain rfl : i = a.length := by omega
   rw [List.take_length] at hacc
   try (conv => whnf)
   repeat' (first
    | (refine Pick.mk ?_ ?_ ?_; rotate_left; (focus (exact List.length_map _)); conv => whnf)
    | (refine SeqJ.thru ?_; conv => whnf)
    | (refine br_dec (fun _ => ?_) (fun _ => ?_) <;> first | (exfalso; omega) | contradiction | conv => whnf)
    | (refine br_not ?_; conv => whnf)
    | (refine br_bne (fun _ => ?_) (fun _ => ?_) <;> first | (exfalso; omega) | contradiction | conv => whnf)
    | (refine br_beq (fun _ => ?_) (fun _ => ?_) <;> first | (exfalso; omega) | contradiction | conv => whnf))
   refine LoopE.mk (fun x : Nat × List EntV => mk [(1, vEs a), (3, vEs b), (4, .one (.ptr 4096 0)), (9, vEs x.2), (13, vI .i64 x.1)] [(4096, .box [cN A])]) (fun x => x.1 ≤ b.length ∧ x.2 = jB A B a b (b.take x.1)) (fun x => b.length - x.1) (0, acc) ⟨by simp, by simp [jB, hacc]⟩ (LeX.of ?_) ?_
   ·try (conv => whnf)
    repeat (refine Need.mk ?_ ?_; (focus (first | omega | (simp; done))); conv => whnf)
    trivial
   ·rintro ⟨j, acc⟩ ⟨hj, hacc⟩
    dsimp only at hj hacc ⊢
    have hlen : acc.length ≤ 512 := by
     have h1 := (jB_ok A B a b sa (b.take j) (List.Pairwise.sublist (List.take_sublist _ _) sb)).2.1
     rw [← hacc] at h1; simp at h1; omega
    rcases Nat.lt_or_ge j b.length with hlt | hge
    ·have hst : jB A B a b (b.take (j + 1)) = stB A a acc b[j] := by rw [List.take_succ_eq_append_getElem hlt, jB_snoc, hacc]
     have hok := (hb.2.2 j hlt).1.2
     obtain ⟨q1, q2⟩ := actSeen ha.1 hok
     have q3 : A.getD b[j].a.toNat 0 = A[b[j].a.toNat] := (seen_at ha.1 hok).2
     unfold stB at hst
     rw [q3] at hst
     try (conv => whnf)
     repeat' (first
      | (refine Pick.mk ?_ ?_ ?_; rotate_left; (focus (first | exact List.length_map _ | (refine pick_nat _ _ _ ?_; omega))); conv => whnf)
      | (refine SeqJ.thru ?_; conv => whnf)
      | (refine br_dec (fun _ => ?_) (fun _ => ?_) <;> first | (exfalso; omega) | contradiction | conv => whnf)
      | (refine br_not ?_; conv => whnf)
      | (refine br_bne (fun _ => ?_) (fun _ => ?_) <;> first | (exfalso; omega) | contradiction | conv => whnf)
      | (refine br_beq (fun _ => ?_) (fun _ => ?_) <;> first | (exfalso; omega) | contradiction | conv => whnf))
     refine Hand.mk [] ?_
     try (conv => whnf)
     refine CallW.n (s_l03Find a b[j].t b[j].a (by omega)) ?_
     rintro _ _ ⟨k, rfl, rfl, hk⟩
     rcases hk with ⟨rfl, hf⟩ | ⟨i, hi, rfl, -, hf⟩
     ·by_cases hk : A[b[j].a.toNat] < b[j].t
      ·rw [if_pos ⟨hf, hk⟩] at hst
       try (conv => whnf)
       repeat' (first
        | (refine Pick.mk ?_ ?_ ?_; rotate_left; (focus (first | (refine pick_nat _ _ _ ?_; omega) | (refine pick_int _ _ _ ?_ ?_ <;> omega))); conv => whnf)
        | (refine br_dec (fun _ => ?_) (fun _ => ?_) <;> first | (exfalso; omega) | contradiction | conv => whnf)
        | (refine br_not ?_; conv => whnf)
        | (refine br_bne (fun _ => ?_) (fun _ => ?_) <;> first | (exfalso; omega) | contradiction | conv => whnf)
        | (refine br_beq (fun _ => ?_) (fun _ => ?_) <;> first | (exfalso; omega) | contradiction | conv => whnf))
       refine Hand.mk [] ?_
       try (conv => whnf)
       refine CallW.d (s_l03Insert acc b[j] (by omega)) ?_
       try (conv => whnf)
       repeat (refine Pick.mk ?_ ?_ ?_; rotate_left; (focus ((refine wid ?_ ?_ <;> omega))); conv => whnf)
       refine Pick.mk (j + 1, insE acc b[j]) ⟨⟨by dsimp only; omega, hst.symm⟩, by dsimp only; omega⟩ (LeX.of ?_)
       try (conv => whnf)
       repeat (refine Need.mk ?_ ?_; (focus (first | omega | (simp; done))); conv => whnf)
       trivial
      ·rw [if_neg fun g => hk g.2] at hst
       try (conv => whnf)
       repeat' (first
        | (refine Pick.mk ?_ ?_ ?_; rotate_left; (focus (first | (refine wid ?_ ?_ <;> omega) | (refine pick_nat _ _ _ ?_; omega) | (refine pick_int _ _ _ ?_ ?_ <;> omega))); conv => whnf)
        | (refine br_dec (fun _ => ?_) (fun _ => ?_) <;> first | (exfalso; omega) | contradiction | conv => whnf)
        | (refine br_not ?_; conv => whnf)
        | (refine br_bne (fun _ => ?_) (fun _ => ?_) <;> first | (exfalso; omega) | contradiction | conv => whnf)
        | (refine br_beq (fun _ => ?_) (fun _ => ?_) <;> first | (exfalso; omega) | contradiction | conv => whnf))
       refine Pick.mk (j + 1, acc) ⟨⟨by dsimp only; omega, hst.symm⟩, by dsimp only; omega⟩ (LeX.of ?_)
       try (conv => whnf)
       repeat (refine Need.mk ?_ ?_; (focus (first | omega | (simp; done))); conv => whnf)
       trivial
     ·rw [if_neg fun g => by rw [hf] at g; simp at g] at hst
      try (conv => whnf)
      repeat' (first
       | (refine Pick.mk ?_ ?_ ?_; rotate_left; (focus ((refine wid ?_ ?_ <;> omega))); conv => whnf)
       | (refine br_dec (fun _ => ?_) (fun _ => ?_) <;> first | (exfalso; omega) | contradiction | conv => whnf)
       | (refine br_not ?_; conv => whnf)
       | (refine br_bne (fun _ => ?_) (fun _ => ?_) <;> first | (exfalso; omega) | contradiction | conv => whnf)
       | (refine br_beq (fun _ => ?_) (fun _ => ?_) <;> first | (exfalso; omega) | contradiction | conv => whnf))
      refine Pick.mk (j + 1, acc) ⟨⟨by dsimp only; omega, hst.symm⟩, by dsimp only; omega⟩ (LeX.of ?_)
      try (conv => whnf)
      repeat (refine Need.mk ?_ ?_; (focus (first | omega | (simp; done))); conv => whnf)
      trivial
    ·rw [List.take_of_length_le hge] at hacc
     try (conv => whnf)
     repeat' (first
      | (refine Pick.mk ?_ ?_ ?_; rotate_left; (focus (exact List.length_map _)); conv => whnf)
      | (refine SeqJ.thru ?_; conv => whnf)
      | (refine br_dec (fun _ => ?_) (fun _ => ?_) <;> first | (exfalso; omega) | contradiction | conv => whnf)
      | (refine br_not ?_; conv => whnf)
      | (refine br_bne (fun _ => ?_) (fun _ => ?_) <;> first | (exfalso; omega) | contradiction | conv => whnf)
      | (refine br_beq (fun _ => ?_) (fun _ => ?_) <;> first | (exfalso; omega) | contradiction | conv => whnf))
     refine Out.mk true [] [] ?_
     try (conv => whnf)
     exact ⟨by rw [hacc, jB_mg A B sa sb], rfl⟩
end Go.Proofs.Ytpdjehnlejjfmaa.D
/- States of several entries joined: by the reference, by the program. -/
namespace Go.Proofs.Ytpdjehnlejjfmaa.D
open Go.RowKit
set_option maxRecDepth 100000
set_option maxHeartbeats 4000000
set_option linter.unusedVariables false
set_option linter.unusedSimpArgs false

noncomputable abbrev jR (A : List Int) (a : List EntV) (B : List Int) (b : List EntV) : SV := .tup [(true, [cN (jS A a B b), cE (jE A a B b)]), (false, [cI (jC A a B b)])]
theorem jErr {A B : List Int} {a b : List EntV} {c : Int} (hc : jC A a B b = c) (h0 : c ≠ 0) : SV.tup [(true, [cN [], cE []]), (false, [cI c])] = jR A a B b := by
 subst hc
 rw [jR, jS, jE, if_neg h0, if_neg h0]
theorem jGood {A B : List Int} {a b : List EntV} (hc : jC A a B b = 0) : SV.tup [(true, [cN (vmax A B), cE (mg A B a b)]), (false, [cI 0])] = jR A a B b := by
 rw [jR, jS, jE, if_pos hc, if_pos hc, hc]
theorem mg_len {A B : List Int} {a b : List EntV} (ha : StOk A a) (hb : StOk B b) : (mg A B a b).length ≤ 512 := by
 have h1 := (jB_ok A B a b (stOk_srt ha) b (stOk_srt hb)).2.1
 rw [jB_mg A B (stOk_srt ha) (stOk_srt hb)] at h1
 have := ha.2.1; have := hb.2.1; omega
theorem s_MultiJoin (A : List Int) (a : List EntV) (B : List Int) (b : List EntV) (ha : a.length ≤ 2 ^ 62 ∧ ∀ e ∈ a, e.x.length ≤ 2 ^ 62) (hb : b.length ≤ 2 ^ 62 ∧ ∀ e ∈ b, e.x.length ≤ 2 ^ 62) :
  CallN Try.prog id_spec_MultiJoin [vM A a, vM B b] [] [] (jR A a B b) [] := by
 refine F_spec_MultiJoin ?_
 try (conv => whnf)
 repeat (refine SeqJ.thru ?_; conv => whnf)
 refine Hand.mk [] ?_
 try (conv => whnf)
 refine CallW.d (s_l03EntriesOK A a ha.1 ha.2) ?_
 try (conv => whnf)
 by_cases h1 : StOk A a
 rotate_left
 ·try (conv => whnf)
  repeat' (first
   | (refine br_dec (fun _ => ?_) (fun _ => ?_) <;> first | (exfalso; omega) | contradiction | conv => whnf)
   | (refine br_not ?_; conv => whnf)
   | (refine br_bne (fun _ => ?_) (fun _ => ?_) <;> first | (exfalso; omega) | contradiction | conv => whnf)
   | (refine br_beq (fun _ => ?_) (fun _ => ?_) <;> first | (exfalso; omega) | contradiction | conv => whnf))
  refine Out.mk true [] [] ?_
  try (conv => whnf)
  exact ⟨jErr (by rw [jC, if_pos fun g => h1 g.1]) (by omega), rfl⟩
 try (conv => whnf)
 repeat' (first
  | (refine br_dec (fun _ => ?_) (fun _ => ?_) <;> first | (exfalso; omega) | contradiction | conv => whnf)
  | (refine br_not ?_; conv => whnf)
  | (refine br_bne (fun _ => ?_) (fun _ => ?_) <;> first | (exfalso; omega) | contradiction | conv => whnf)
  | (refine br_beq (fun _ => ?_) (fun _ => ?_) <;> first | (exfalso; omega) | contradiction | conv => whnf))
 refine Hand.mk [] ?_
 try (conv => whnf)
 refine CallW.d (s_l03EntriesOK B b hb.1 hb.2) ?_
 try (conv => whnf)
 by_cases h2 : StOk B b
 rotate_left
 ·try (conv => whnf)
  repeat' (first
   | (refine br_dec (fun _ => ?_) (fun _ => ?_) <;> first | (exfalso; omega) | contradiction | conv => whnf)
   | (refine br_not ?_; conv => whnf)
   | (refine br_bne (fun _ => ?_) (fun _ => ?_) <;> first | (exfalso; omega) | contradiction | conv => whnf)
   | (refine br_beq (fun _ => ?_) (fun _ => ?_) <;> first | (exfalso; omega) | contradiction | conv => whnf))
  refine Out.mk true [] [] ?_
  try (conv => whnf)
  exact ⟨jErr (by rw [jC, if_pos fun g => h2 g.2]) (by omega), rfl⟩
 have hl := mg_len h1 h2
 have hv := vmax_len h1.1.1 h2.1.1
 have c1 := s_l03Join A a B b h1 h2
 have hjc : ¬ ¬ (StOk A a ∧ StOk B b) := fun g => g ⟨h1, h2⟩
 have g1 : 256 < (mg A B a b).length → jC A a B b = 11 := fun h => by rw [jC, if_neg hjc, if_pos h]
 have g2 : ¬ 256 < (mg A B a b).length → jC A a B b = 0 := fun h => by rw [jC, if_neg hjc, if_neg h]
 have hgo : ¬ 256 < (mg A B a b).length → SV.tup [(true, [cN (vmax A B), cE (mg A B a b)]), (false, [cI 0])] = jR A a B b := fun h => jGood (g2 h)
 generalize mg A B a b = m at c1 hl g1 hgo
 try (conv => whnf)
 repeat' (first
  | (refine br_dec (fun _ => ?_) (fun _ => ?_) <;> first | (exfalso; omega) | contradiction | conv => whnf)
  | (refine br_not ?_; conv => whnf)
  | (refine br_bne (fun _ => ?_) (fun _ => ?_) <;> first | (exfalso; omega) | contradiction | conv => whnf)
  | (refine br_beq (fun _ => ?_) (fun _ => ?_) <;> first | (exfalso; omega) | contradiction | conv => whnf))
 refine Hand.mk [] ?_
 try (conv => whnf)
 refine CallW.k (c1) ?_
 try (conv => whnf)
 repeat (first
  | (refine Pick.mk ?_ ?_ ?_; rotate_left; (focus (exact List.length_map _)); conv => whnf)
  | (refine SeqJ.thru ?_; conv => whnf))
 try (conv => whnf)
 repeat' (first
  | (refine br_dec (fun _ => ?_) (fun _ => ?_) <;> first | (exfalso; omega) | contradiction | conv => whnf)
  | (refine br_not ?_; conv => whnf)
  | (refine br_bne (fun _ => ?_) (fun _ => ?_) <;> first | (exfalso; omega) | contradiction | conv => whnf)
  | (refine br_beq (fun _ => ?_) (fun _ => ?_) <;> first | (exfalso; omega) | contradiction | conv => whnf))
 ·refine Out.mk true [] [] ?_
  try (conv => whnf)
  exact ⟨jErr (g1 (by omega)) (by omega), rfl⟩
 ·refine Hand.mk [] ?_
  try (conv => whnf)
  refine CallW.d (s_l02Join A B h1.1.1 h2.1.1) ?_
  try (conv => whnf)
  refine Out.mk true [] [] ?_
  try (conv => whnf)
  repeat (refine Pick.mk ?_ ?_ ?_; rotate_left; (focus ((refine SlF.self _ _ ?_ ?_; (first | rfl | omega | (simp; done) | (simp; omega)); (exact fun _ => rfl)))); conv => whnf)
  exact ⟨hgo (by omega), rfl⟩
theorem jR_lens (A : List Int) (a : List EntV) (B : List Int) (b : List EntV) : (jS A a B b).length ≤ 16 ∧ (jE A a B b).length ≤ 256 := by
 unfold jS jE
 by_cases h : jC A a B b = 0
 ·rw [if_pos h, if_pos h]
  have h' := jC_zero.1 h
  exact ⟨by rw [vmax_len h'.1.1.1.1 h'.1.2.1.1]; omega, h'.2⟩
 ·rw [if_neg h, if_neg h]; simp
theorem s_SetJoin (A : List Int) (a : List EntV) (B : List Int) (b : List EntV) (ha : a.length ≤ 2 ^ 62 ∧ ∀ e ∈ a, e.x.length ≤ 2 ^ 62) (hb : b.length ≤ 2 ^ 62 ∧ ∀ e ∈ b, e.x.length ≤ 2 ^ 62) :
  CallN Try.prog id_spec_SetJoin [vM A a, vM B b] [] [] (jR A a B b) [] := by
 refine F_spec_SetJoin ?_
 have c1 := s_MultiJoin A a B b ha hb
 unfold jR at c1 ⊢
 generalize jS A a B b = S at *
 generalize jE A a B b = E at *
 generalize jC A a B b = C at *
 try (conv => whnf)
 refine Hand.mk [] ?_
 try (conv => whnf)
 refine CallW.k (c1) ?_
 try (conv => whnf)
 refine Out.mk true [] [] ?_
 try (conv => whnf)
 exact ⟨rfl, rfl⟩
theorem drop_at {l : List EntV} {i : Nat} (h : i < l.length) : l.drop i = l[i] :: l.drop (i + 1) := List.drop_eq_getElem_cons h
theorem i_joinStates (A : List Int) (a : List EntV) (B : List Int) (b : List EntV) (ha : StOk A a) (hb : StOk B b) :
  CallN Try.prog id_impl_joinStates [vV A, vEs a, vV B, vEs b] [] [] (.tup [(true, [cN (jS A a B b)]), (false, [cE (jE A a B b)]), (false, [cI (jC A a B b)])]) [] := by
 refine F_impl_joinStates ?_
 have hal := ha.2.1
 have hbl := hb.2.1
 have hA := ha.1.1
 have hB := hb.1.1
 try (conv => whnf)
 repeat (refine SeqJ.thru ?_; conv => whnf)
 refine LoopE.mk (fun x : (Nat × Nat) × List EntV => mk [(1, vEs a), (3, vEs b), (4, .one (.ptr 4096 0)), (6, .one (.ptr 4112 0)), (8, .one (.ptr 4128 0)), (11, .one (.os (.v 5000) 3 0 x.2.length)), (12, vI .i64 x.1.1), (13, vI .i64 x.1.2)] [(4096, .box [cN A]), (4112, .box [cN B]), (4128, .box [.nil]), (5000, .own 3 (x.2.map entD))])
  (fun x => (x.1.1 ≤ a.length ∧ x.1.2 ≤ b.length) ∧ x.2.length ≤ x.1.1 + x.1.2 ∧ x.2 ++ mg A B (a.drop x.1.1) (b.drop x.1.2) = mg A B a b) (fun x => (a.length - x.1.1) + (b.length - x.1.2)) ((0, 0), []) ⟨by simp, by simp, by simp⟩ (LeX.of ?_) ?_
 ·try (conv => whnf)
  repeat (refine Need.mk ?_ ?_; (focus (first | (simp only [List.length_map, List.length_append, List.length_cons, List.length_nil, List.length_replicate]; omega) | (simp; done))); conv => whnf)
  trivial
 ·rintro ⟨⟨i, j⟩, out⟩ ⟨⟨hi, hj⟩, hol, hm⟩
  dsimp only at hi hj hol hm ⊢
  by_cases ia : i < a.length
  ·have oka := (ha.2.2 i ia).1.2
   obtain ⟨qa1, qa2⟩ := actSeen hb.1 oka
   have qa3 : B.getD a[i].a.toNat 0 = B[a[i].a.toNat] := (seen_at hb.1 oka).2
   have dA := drop_at ia
   by_cases jb : j < b.length
   ·have okb := (hb.2.2 j jb).1.2
    obtain ⟨qb1, qb2⟩ := actSeen ha.1 okb
    have qb3 : A.getD b[j].a.toNat 0 = A[b[j].a.toNat] := (seen_at ha.1 okb).2
    have dB := drop_at jb
    by_cases hlt : eLt a[i] b[j]
    ·have hst : mg A B (a.drop i) (b.drop j) = keep B a[i] (mg A B (a.drop (i + 1)) (b.drop j)) := by rw [dA, dB, mg_lt A B _ _ hlt]
     have q3 := qa3
     by_cases hk : B[a[i].a.toNat] < a[i].t
     ·try (conv => whnf)
      repeat' (first
       | (refine Pick.mk ?_ ?_ ?_; rotate_left; (focus (first | exact List.length_map _ | (refine pick_nat _ _ _ ?_; omega))); conv => whnf)
       | (refine SeqJ.thru ?_; conv => whnf)
       | (refine br_dec (fun _ => ?_) (fun _ => ?_) <;> first | (exfalso; omega) | contradiction | conv => whnf)
       | (refine br_not ?_; conv => whnf)
       | (refine br_bne (fun _ => ?_) (fun _ => ?_) <;> first | (exfalso; omega) | contradiction | conv => whnf)
       | (refine br_beq (fun _ => ?_) (fun _ => ?_) <;> first | (exfalso; omega) | contradiction | conv => whnf))
      refine Hand.mk [] ?_
      try (conv => whnf)
      refine CallW.d (i_StampLess a[i].t a[i].a b[j].t b[j].a) ?_
      try (conv => whnf)
      try (conv => whnf)
      repeat' (first
       | (refine Need.mk ?_ ?_; (focus ((simp only [List.length_map, List.length_append, List.length_cons, List.length_nil, List.length_replicate]; omega))); conv => whnf)
       | (refine Pick.mk ?_ ?_ ?_; rotate_left; (focus (first | exact map_snoc entD _ _ | (simp only [List.length_map, List.length_append, List.length_cons, List.length_nil, List.length_replicate, Nat.zero_add]; rfl) | (simp only [chunks]; rfl) | (refine wid ?_ ?_ <;> omega) | (refine pick_nat _ _ _ ?_; omega) | (refine pick_int _ _ _ ?_ ?_ <;> omega) | (refine SlOf.full ?_; first | (simp; done) | (simp; omega)))); conv => whnf)
       | (refine SeqJ.thru ?_; conv => whnf)
       | (refine br_dec (fun _ => ?_) (fun _ => ?_) <;> first | (exfalso; omega) | contradiction | conv => whnf)
       | (refine br_not ?_; conv => whnf)
       | (refine br_bne (fun _ => ?_) (fun _ => ?_) <;> first | (exfalso; omega) | contradiction | conv => whnf)
       | (refine br_beq (fun _ => ?_) (fun _ => ?_) <;> first | (exfalso; omega) | contradiction | conv => whnf))
      refine Pick.mk ((i + 1, j), out ++ [a[i]]) ⟨⟨⟨by dsimp only; omega, by dsimp only; omega⟩, by simp; omega, ?_⟩, by dsimp only; omega⟩ (LeX.of ?_)
      ·rw [hst, keep, if_pos (by rw [q3]; omega)] at hm
       simpa using hm
      ·try (conv => whnf)
       repeat (refine Need.mk ?_ ?_; (focus (first | (simp only [List.length_map, List.length_append, List.length_cons, List.length_nil, List.length_replicate]; omega) | (simp; done))); conv => whnf)
       trivial
     ·try (conv => whnf)
      repeat' (first
       | (refine Pick.mk ?_ ?_ ?_; rotate_left; (focus (first | exact List.length_map _ | (refine pick_nat _ _ _ ?_; omega))); conv => whnf)
       | (refine SeqJ.thru ?_; conv => whnf)
       | (refine br_dec (fun _ => ?_) (fun _ => ?_) <;> first | (exfalso; omega) | contradiction | conv => whnf)
       | (refine br_not ?_; conv => whnf)
       | (refine br_bne (fun _ => ?_) (fun _ => ?_) <;> first | (exfalso; omega) | contradiction | conv => whnf)
       | (refine br_beq (fun _ => ?_) (fun _ => ?_) <;> first | (exfalso; omega) | contradiction | conv => whnf))
      refine Hand.mk [] ?_
      try (conv => whnf)
      refine CallW.d (i_StampLess a[i].t a[i].a b[j].t b[j].a) ?_
      try (conv => whnf)
      try (conv => whnf)
      repeat' (first
       | (refine Pick.mk ?_ ?_ ?_; rotate_left; (focus (first | (refine wid ?_ ?_ <;> omega) | (refine pick_nat _ _ _ ?_; omega) | (refine pick_int _ _ _ ?_ ?_ <;> omega))); conv => whnf)
       | (refine SeqJ.thru ?_; conv => whnf)
       | (refine br_dec (fun _ => ?_) (fun _ => ?_) <;> first | (exfalso; omega) | contradiction | conv => whnf)
       | (refine br_not ?_; conv => whnf)
       | (refine br_bne (fun _ => ?_) (fun _ => ?_) <;> first | (exfalso; omega) | contradiction | conv => whnf)
       | (refine br_beq (fun _ => ?_) (fun _ => ?_) <;> first | (exfalso; omega) | contradiction | conv => whnf))
      refine Pick.mk ((i + 1, j), out) ⟨⟨⟨by dsimp only; omega, by dsimp only; omega⟩, by dsimp only; omega, ?_⟩, by dsimp only; omega⟩ (LeX.of ?_)
      ·rw [hst, keep, if_neg (by rw [q3]; omega)] at hm
       exact hm
      ·try (conv => whnf)
       repeat (refine Need.mk ?_ ?_; (focus (first | (simp only [List.length_map, List.length_append, List.length_cons, List.length_nil, List.length_replicate]; omega) | (simp; done))); conv => whnf)
       trivial
    ·by_cases hgt : eLt b[j] a[i]
     ·have hst : mg A B (a.drop i) (b.drop j) = keep A b[j] (mg A B (a.drop i) (b.drop (j + 1))) := by rw [dA, dB, mg_gt A B _ _ hlt hgt]
      have q3 := qb3
      by_cases hk : A[b[j].a.toNat] < b[j].t
      ·try (conv => whnf)
       repeat' (first
        | (refine Pick.mk ?_ ?_ ?_; rotate_left; (focus (first | exact List.length_map _ | (refine pick_nat _ _ _ ?_; omega))); conv => whnf)
        | (refine SeqJ.thru ?_; conv => whnf)
        | (refine br_dec (fun _ => ?_) (fun _ => ?_) <;> first | (exfalso; omega) | contradiction | conv => whnf)
        | (refine br_not ?_; conv => whnf)
        | (refine br_bne (fun _ => ?_) (fun _ => ?_) <;> first | (exfalso; omega) | contradiction | conv => whnf)
        | (refine br_beq (fun _ => ?_) (fun _ => ?_) <;> first | (exfalso; omega) | contradiction | conv => whnf))
       refine Hand.mk [] ?_
       try (conv => whnf)
       refine CallW.d (i_StampLess a[i].t a[i].a b[j].t b[j].a) ?_
       try (conv => whnf)
       try (conv => whnf)
       repeat' (first
        | (refine Pick.mk ?_ ?_ ?_; rotate_left; (focus (first | exact List.length_map _ | (refine pick_nat _ _ _ ?_; omega))); conv => whnf)
        | (refine br_dec (fun _ => ?_) (fun _ => ?_) <;> first | (exfalso; omega) | contradiction | conv => whnf)
        | (refine br_not ?_; conv => whnf)
        | (refine br_bne (fun _ => ?_) (fun _ => ?_) <;> first | (exfalso; omega) | contradiction | conv => whnf)
        | (refine br_beq (fun _ => ?_) (fun _ => ?_) <;> first | (exfalso; omega) | contradiction | conv => whnf))
       refine Hand.mk [] ?_
       try (conv => whnf)
       refine CallW.d (i_StampLess b[j].t b[j].a a[i].t a[i].a) ?_
       try (conv => whnf)
       try (conv => whnf)
       repeat' (first
        | (refine Need.mk ?_ ?_; (focus ((simp only [List.length_map, List.length_append, List.length_cons, List.length_nil, List.length_replicate]; omega))); conv => whnf)
        | (refine Pick.mk ?_ ?_ ?_; rotate_left; (focus (first | exact map_snoc entD _ _ | (simp only [List.length_map, List.length_append, List.length_cons, List.length_nil, List.length_replicate, Nat.zero_add]; rfl) | (simp only [chunks]; rfl) | (refine wid ?_ ?_ <;> omega) | (refine pick_nat _ _ _ ?_; omega) | (refine pick_int _ _ _ ?_ ?_ <;> omega) | (refine SlOf.full ?_; first | (simp; done) | (simp; omega)))); conv => whnf)
        | (refine SeqJ.thru ?_; conv => whnf)
        | (refine br_dec (fun _ => ?_) (fun _ => ?_) <;> first | (exfalso; omega) | contradiction | conv => whnf)
        | (refine br_not ?_; conv => whnf)
        | (refine br_bne (fun _ => ?_) (fun _ => ?_) <;> first | (exfalso; omega) | contradiction | conv => whnf)
        | (refine br_beq (fun _ => ?_) (fun _ => ?_) <;> first | (exfalso; omega) | contradiction | conv => whnf))
       refine Pick.mk ((i, j + 1), out ++ [b[j]]) ⟨⟨⟨by dsimp only; omega, by dsimp only; omega⟩, by simp; omega, ?_⟩, by dsimp only; omega⟩ (LeX.of ?_)
       ·rw [hst, keep, if_pos (by rw [q3]; omega)] at hm
        simpa using hm
       ·try (conv => whnf)
        repeat (refine Need.mk ?_ ?_; (focus (first | (simp only [List.length_map, List.length_append, List.length_cons, List.length_nil, List.length_replicate]; omega) | (simp; done))); conv => whnf)
        trivial
      ·try (conv => whnf)
       repeat' (first
        | (refine Pick.mk ?_ ?_ ?_; rotate_left; (focus (first | exact List.length_map _ | (refine pick_nat _ _ _ ?_; omega))); conv => whnf)
        | (refine SeqJ.thru ?_; conv => whnf)
        | (refine br_dec (fun _ => ?_) (fun _ => ?_) <;> first | (exfalso; omega) | contradiction | conv => whnf)
        | (refine br_not ?_; conv => whnf)
        | (refine br_bne (fun _ => ?_) (fun _ => ?_) <;> first | (exfalso; omega) | contradiction | conv => whnf)
        | (refine br_beq (fun _ => ?_) (fun _ => ?_) <;> first | (exfalso; omega) | contradiction | conv => whnf))
       refine Hand.mk [] ?_
       try (conv => whnf)
       refine CallW.d (i_StampLess a[i].t a[i].a b[j].t b[j].a) ?_
       try (conv => whnf)
       try (conv => whnf)
       repeat' (first
        | (refine Pick.mk ?_ ?_ ?_; rotate_left; (focus (first | exact List.length_map _ | (refine pick_nat _ _ _ ?_; omega))); conv => whnf)
        | (refine br_dec (fun _ => ?_) (fun _ => ?_) <;> first | (exfalso; omega) | contradiction | conv => whnf)
        | (refine br_not ?_; conv => whnf)
        | (refine br_bne (fun _ => ?_) (fun _ => ?_) <;> first | (exfalso; omega) | contradiction | conv => whnf)
        | (refine br_beq (fun _ => ?_) (fun _ => ?_) <;> first | (exfalso; omega) | contradiction | conv => whnf))
       refine Hand.mk [] ?_
       try (conv => whnf)
       refine CallW.d (i_StampLess b[j].t b[j].a a[i].t a[i].a) ?_
       try (conv => whnf)
       try (conv => whnf)
       repeat' (first
        | (refine Pick.mk ?_ ?_ ?_; rotate_left; (focus (first | (refine wid ?_ ?_ <;> omega) | (refine pick_nat _ _ _ ?_; omega) | (refine pick_int _ _ _ ?_ ?_ <;> omega))); conv => whnf)
        | (refine SeqJ.thru ?_; conv => whnf)
        | (refine br_dec (fun _ => ?_) (fun _ => ?_) <;> first | (exfalso; omega) | contradiction | conv => whnf)
        | (refine br_not ?_; conv => whnf)
        | (refine br_bne (fun _ => ?_) (fun _ => ?_) <;> first | (exfalso; omega) | contradiction | conv => whnf)
        | (refine br_beq (fun _ => ?_) (fun _ => ?_) <;> first | (exfalso; omega) | contradiction | conv => whnf))
       refine Pick.mk ((i, j + 1), out) ⟨⟨⟨by dsimp only; omega, by dsimp only; omega⟩, by dsimp only; omega, ?_⟩, by dsimp only; omega⟩ (LeX.of ?_)
       ·rw [hst, keep, if_neg (by rw [q3]; omega)] at hm
        exact hm
       ·try (conv => whnf)
        repeat (refine Need.mk ?_ ?_; (focus (first | (simp only [List.length_map, List.length_append, List.length_cons, List.length_nil, List.length_replicate]; omega) | (simp; done))); conv => whnf)
        trivial
     ·have hst : mg A B (a.drop i) (b.drop j) = ⟨a[i].t, a[i].a, mx a[i].x b[j].x⟩ :: mg A B (a.drop (i + 1)) (b.drop (j + 1)) := by rw [dA, dB, mg_eq A B _ _ hlt hgt]
      have he : a[i].t = b[j].t ∧ a[i].a = b[j].a := by rcases stLt_tri a[i].t a[i].a b[j].t b[j].a with g | g | g; exact absurd g hlt; exact g; exact absurd g hgt
      rw [hst] at hm
      cases hx : Op.bytesLess a[i].x b[j].x
      ·rw [mx, if_neg (by rw [hx]; simp)] at hm
       try (conv => whnf)
       repeat' (first
        | (refine Pick.mk ?_ ?_ ?_; rotate_left; (focus (first | exact List.length_map _ | (refine pick_nat _ _ _ ?_; omega))); conv => whnf)
        | (refine SeqJ.thru ?_; conv => whnf)
        | (refine br_dec (fun _ => ?_) (fun _ => ?_) <;> first | (exfalso; omega) | contradiction | conv => whnf)
        | (refine br_not ?_; conv => whnf)
        | (refine br_bne (fun _ => ?_) (fun _ => ?_) <;> first | (exfalso; omega) | contradiction | conv => whnf)
        | (refine br_beq (fun _ => ?_) (fun _ => ?_) <;> first | (exfalso; omega) | contradiction | conv => whnf))
       refine Hand.mk [] ?_
       try (conv => whnf)
       refine CallW.d (i_StampLess a[i].t a[i].a b[j].t b[j].a) ?_
       try (conv => whnf)
       try (conv => whnf)
       repeat' (first
        | (refine Pick.mk ?_ ?_ ?_; rotate_left; (focus (first | exact List.length_map _ | (refine pick_nat _ _ _ ?_; omega))); conv => whnf)
        | (refine br_dec (fun _ => ?_) (fun _ => ?_) <;> first | (exfalso; omega) | contradiction | conv => whnf)
        | (refine br_not ?_; conv => whnf)
        | (refine br_bne (fun _ => ?_) (fun _ => ?_) <;> first | (exfalso; omega) | contradiction | conv => whnf)
        | (refine br_beq (fun _ => ?_) (fun _ => ?_) <;> first | (exfalso; omega) | contradiction | conv => whnf))
       refine Hand.mk [] ?_
       try (conv => whnf)
       refine CallW.d (i_StampLess b[j].t b[j].a a[i].t a[i].a) ?_
       try (conv => whnf)
       try (conv => whnf)
       repeat' (first
        | (refine Pick.mk ?_ ?_ ?_; rotate_left; (focus (first | with_reducible exact bs_leqN _ _ | (refine pick_nat _ _ _ ?_; omega))); conv => whnf)
        | (refine SeqJ.thru ?_; conv => whnf)
        | (refine br_dec (fun _ => ?_) (fun _ => ?_) <;> first | (exfalso; omega) | contradiction | conv => whnf)
        | (refine br_not ?_; conv => whnf)
        | (refine br_bne (fun _ => ?_) (fun _ => ?_) <;> first | (exfalso; omega) | contradiction | conv => whnf)
        | (refine br_beq (fun _ => ?_) (fun _ => ?_) <;> first | (exfalso; omega) | contradiction | conv => whnf))
       refine br_false hx ?_
       try (conv => whnf)
       repeat' (first
        | (refine Need.mk ?_ ?_; (focus ((simp only [List.length_map, List.length_append, List.length_cons, List.length_nil, List.length_replicate]; omega))); conv => whnf)
        | (refine Pick.mk ?_ ?_ ?_; rotate_left; (focus (first | exact map_snoc entD _ _ | (simp only [List.length_map, List.length_append, List.length_cons, List.length_nil, List.length_replicate, Nat.zero_add]; rfl) | (simp only [chunks]; rfl) | (refine wid ?_ ?_ <;> omega) | (refine SlOf.full ?_; first | (simp; done) | (simp; omega)))); conv => whnf)
        | (refine br_dec (fun _ => ?_) (fun _ => ?_) <;> first | (exfalso; omega) | contradiction | conv => whnf)
        | (refine br_not ?_; conv => whnf)
        | (refine br_bne (fun _ => ?_) (fun _ => ?_) <;> first | (exfalso; omega) | contradiction | conv => whnf)
        | (refine br_beq (fun _ => ?_) (fun _ => ?_) <;> first | (exfalso; omega) | contradiction | conv => whnf))
       refine Pick.mk ((i + 1, j + 1), out ++ [a[i]]) ⟨⟨⟨by dsimp only; omega, by dsimp only; omega⟩, by simp; omega, by simpa using hm⟩, by dsimp only; omega⟩ (LeX.of ?_)
       try (conv => whnf)
       repeat (refine Need.mk ?_ ?_; (focus (first | (simp only [List.length_map, List.length_append, List.length_cons, List.length_nil, List.length_replicate]; omega) | (simp; done))); conv => whnf)
       trivial
      ·rw [mx, if_pos hx] at hm
       have hbj : (⟨a[i].t, a[i].a, b[j].x⟩ : EntV) = b[j] := by rw [he.1, he.2]
       rw [hbj] at hm
       try (conv => whnf)
       repeat' (first
        | (refine Pick.mk ?_ ?_ ?_; rotate_left; (focus (first | exact List.length_map _ | (refine pick_nat _ _ _ ?_; omega))); conv => whnf)
        | (refine SeqJ.thru ?_; conv => whnf)
        | (refine br_dec (fun _ => ?_) (fun _ => ?_) <;> first | (exfalso; omega) | contradiction | conv => whnf)
        | (refine br_not ?_; conv => whnf)
        | (refine br_bne (fun _ => ?_) (fun _ => ?_) <;> first | (exfalso; omega) | contradiction | conv => whnf)
        | (refine br_beq (fun _ => ?_) (fun _ => ?_) <;> first | (exfalso; omega) | contradiction | conv => whnf))
       refine Hand.mk [] ?_
       try (conv => whnf)
       refine CallW.d (i_StampLess a[i].t a[i].a b[j].t b[j].a) ?_
       try (conv => whnf)
       try (conv => whnf)
       repeat' (first
        | (refine Pick.mk ?_ ?_ ?_; rotate_left; (focus (first | exact List.length_map _ | (refine pick_nat _ _ _ ?_; omega))); conv => whnf)
        | (refine br_dec (fun _ => ?_) (fun _ => ?_) <;> first | (exfalso; omega) | contradiction | conv => whnf)
        | (refine br_not ?_; conv => whnf)
        | (refine br_bne (fun _ => ?_) (fun _ => ?_) <;> first | (exfalso; omega) | contradiction | conv => whnf)
        | (refine br_beq (fun _ => ?_) (fun _ => ?_) <;> first | (exfalso; omega) | contradiction | conv => whnf))
       refine Hand.mk [] ?_
       try (conv => whnf)
       refine CallW.d (i_StampLess b[j].t b[j].a a[i].t a[i].a) ?_
       try (conv => whnf)
       try (conv => whnf)
       repeat' (first
        | (refine Pick.mk ?_ ?_ ?_; rotate_left; (focus (first | with_reducible exact bs_leqN _ _ | (refine pick_nat _ _ _ ?_; omega))); conv => whnf)
        | (refine SeqJ.thru ?_; conv => whnf)
        | (refine br_dec (fun _ => ?_) (fun _ => ?_) <;> first | (exfalso; omega) | contradiction | conv => whnf)
        | (refine br_not ?_; conv => whnf)
        | (refine br_bne (fun _ => ?_) (fun _ => ?_) <;> first | (exfalso; omega) | contradiction | conv => whnf)
        | (refine br_beq (fun _ => ?_) (fun _ => ?_) <;> first | (exfalso; omega) | contradiction | conv => whnf))
       refine br_true hx ?_
       try (conv => whnf)
       repeat' (first
        | (refine Need.mk ?_ ?_; (focus ((simp only [List.length_map, List.length_append, List.length_cons, List.length_nil, List.length_replicate]; omega))); conv => whnf)
        | (refine Pick.mk ?_ ?_ ?_; rotate_left; (focus (first | exact map_snoc entD _ _ | (simp only [List.length_map, List.length_append, List.length_cons, List.length_nil, List.length_replicate, Nat.zero_add]; rfl) | (simp only [chunks]; rfl) | (refine wid ?_ ?_ <;> omega) | (refine pick_nat _ _ _ ?_; omega) | (refine SlOf.full ?_; first | (simp; done) | (simp; omega)))); conv => whnf)
        | (refine br_dec (fun _ => ?_) (fun _ => ?_) <;> first | (exfalso; omega) | contradiction | conv => whnf)
        | (refine br_not ?_; conv => whnf)
        | (refine br_bne (fun _ => ?_) (fun _ => ?_) <;> first | (exfalso; omega) | contradiction | conv => whnf)
        | (refine br_beq (fun _ => ?_) (fun _ => ?_) <;> first | (exfalso; omega) | contradiction | conv => whnf))
       refine Pick.mk ((i + 1, j + 1), out ++ [b[j]]) ⟨⟨⟨by dsimp only; omega, by dsimp only; omega⟩, by simp; omega, by simpa using hm⟩, by dsimp only; omega⟩ (LeX.of ?_)
       try (conv => whnf)
       repeat (refine Need.mk ?_ ?_; (focus (first | (simp only [List.length_map, List.length_append, List.length_cons, List.length_nil, List.length_replicate]; omega) | (simp; done))); conv => whnf)
       trivial
   ·have dB : b.drop j = [] := List.drop_of_length_le (by omega)
    have hst : mg A B (a.drop i) (b.drop j) = keep B a[i] (mg A B (a.drop (i + 1)) (b.drop j)) := by rw [dA, dB, mg_left]
    have q3 := qa3
    by_cases hk : B[a[i].a.toNat] < a[i].t
    ·try (conv => whnf)
     repeat' (first
      | (refine Need.mk ?_ ?_; (focus ((simp only [List.length_map, List.length_append, List.length_cons, List.length_nil, List.length_replicate]; omega))); conv => whnf)
      | (refine Pick.mk ?_ ?_ ?_; rotate_left; (focus (first | exact map_snoc entD _ _ | exact List.length_map _ | (simp only [List.length_map, List.length_append, List.length_cons, List.length_nil, List.length_replicate, Nat.zero_add]; rfl) | (simp only [chunks]; rfl) | (refine wid ?_ ?_ <;> omega) | (refine pick_nat _ _ _ ?_; omega) | (refine pick_int _ _ _ ?_ ?_ <;> omega) | (refine SlOf.full ?_; first | (simp; done) | (simp; omega)))); conv => whnf)
      | (refine SeqJ.thru ?_; conv => whnf)
      | (refine br_dec (fun _ => ?_) (fun _ => ?_) <;> first | (exfalso; omega) | contradiction | conv => whnf)
      | (refine br_not ?_; conv => whnf)
      | (refine br_bne (fun _ => ?_) (fun _ => ?_) <;> first | (exfalso; omega) | contradiction | conv => whnf)
      | (refine br_beq (fun _ => ?_) (fun _ => ?_) <;> first | (exfalso; omega) | contradiction | conv => whnf))
     refine Pick.mk ((i + 1, j), out ++ [a[i]]) ⟨⟨⟨by dsimp only; omega, by dsimp only; omega⟩, by simp; omega, ?_⟩, by dsimp only; omega⟩ (LeX.of ?_)
     ·rw [hst, keep, if_pos (by rw [q3]; omega)] at hm
      simpa using hm
     ·try (conv => whnf)
      repeat (refine Need.mk ?_ ?_; (focus (first | (simp only [List.length_map, List.length_append, List.length_cons, List.length_nil, List.length_replicate]; omega) | (simp; done))); conv => whnf)
      trivial
    ·try (conv => whnf)
     repeat' (first
      | (refine Pick.mk ?_ ?_ ?_; rotate_left; (focus (first | exact List.length_map _ | (refine wid ?_ ?_ <;> omega) | (refine pick_nat _ _ _ ?_; omega) | (refine pick_int _ _ _ ?_ ?_ <;> omega))); conv => whnf)
      | (refine SeqJ.thru ?_; conv => whnf)
      | (refine br_dec (fun _ => ?_) (fun _ => ?_) <;> first | (exfalso; omega) | contradiction | conv => whnf)
      | (refine br_not ?_; conv => whnf)
      | (refine br_bne (fun _ => ?_) (fun _ => ?_) <;> first | (exfalso; omega) | contradiction | conv => whnf)
      | (refine br_beq (fun _ => ?_) (fun _ => ?_) <;> first | (exfalso; omega) | contradiction | conv => whnf))
     refine Pick.mk ((i + 1, j), out) ⟨⟨⟨by dsimp only; omega, by dsimp only; omega⟩, by dsimp only; omega, ?_⟩, by dsimp only; omega⟩ (LeX.of ?_)
     ·rw [hst, keep, if_neg (by rw [q3]; omega)] at hm
      exact hm
     ·try (conv => whnf)
      repeat (refine Need.mk ?_ ?_; (focus (first | (simp only [List.length_map, List.length_append, List.length_cons, List.length_nil, List.length_replicate]; omega) | (simp; done))); conv => whnf)
      trivial
  ·have dA : a.drop i = [] := List.drop_of_length_le (by omega)
   by_cases jb : j < b.length
   ·have okb := (hb.2.2 j jb).1.2
    obtain ⟨qb1, qb2⟩ := actSeen ha.1 okb
    have q3 : A.getD b[j].a.toNat 0 = A[b[j].a.toNat] := (seen_at ha.1 okb).2
    have hst : mg A B (a.drop i) (b.drop j) = keep A b[j] (mg A B (a.drop i) (b.drop (j + 1))) := by rw [dA, drop_at jb, mg_right]
    by_cases hk : A[b[j].a.toNat] < b[j].t
    ·try (conv => whnf)
     repeat' (first
      | (refine Need.mk ?_ ?_; (focus ((simp only [List.length_map, List.length_append, List.length_cons, List.length_nil, List.length_replicate]; omega))); conv => whnf)
      | (refine Pick.mk ?_ ?_ ?_; rotate_left; (focus (first | exact map_snoc entD _ _ | exact List.length_map _ | (simp only [List.length_map, List.length_append, List.length_cons, List.length_nil, List.length_replicate, Nat.zero_add]; rfl) | (simp only [chunks]; rfl) | (refine wid ?_ ?_ <;> omega) | (refine pick_nat _ _ _ ?_; omega) | (refine pick_int _ _ _ ?_ ?_ <;> omega) | (refine SlOf.full ?_; first | (simp; done) | (simp; omega)))); conv => whnf)
      | (refine SeqJ.thru ?_; conv => whnf)
      | (refine br_dec (fun _ => ?_) (fun _ => ?_) <;> first | (exfalso; omega) | contradiction | conv => whnf)
      | (refine br_not ?_; conv => whnf)
      | (refine br_bne (fun _ => ?_) (fun _ => ?_) <;> first | (exfalso; omega) | contradiction | conv => whnf)
      | (refine br_beq (fun _ => ?_) (fun _ => ?_) <;> first | (exfalso; omega) | contradiction | conv => whnf))
     refine Pick.mk ((i, j + 1), out ++ [b[j]]) ⟨⟨⟨by dsimp only; omega, by dsimp only; omega⟩, by simp; omega, ?_⟩, by dsimp only; omega⟩ (LeX.of ?_)
     ·rw [hst, keep, if_pos (by rw [q3]; omega)] at hm
      simpa using hm
     ·try (conv => whnf)
      repeat (refine Need.mk ?_ ?_; (focus (first | (simp only [List.length_map, List.length_append, List.length_cons, List.length_nil, List.length_replicate]; omega) | (simp; done))); conv => whnf)
      trivial
    ·try (conv => whnf)
     repeat' (first
      | (refine Pick.mk ?_ ?_ ?_; rotate_left; (focus (first | exact List.length_map _ | (refine wid ?_ ?_ <;> omega) | (refine pick_nat _ _ _ ?_; omega) | (refine pick_int _ _ _ ?_ ?_ <;> omega))); conv => whnf)
      | (refine SeqJ.thru ?_; conv => whnf)
      | (refine br_dec (fun _ => ?_) (fun _ => ?_) <;> first | (exfalso; omega) | contradiction | conv => whnf)
      | (refine br_not ?_; conv => whnf)
      | (refine br_bne (fun _ => ?_) (fun _ => ?_) <;> first | (exfalso; omega) | contradiction | conv => whnf)
      | (refine br_beq (fun _ => ?_) (fun _ => ?_) <;> first | (exfalso; omega) | contradiction | conv => whnf))
     refine Pick.mk ((i, j + 1), out) ⟨⟨⟨by dsimp only; omega, by dsimp only; omega⟩, by dsimp only; omega, ?_⟩, by dsimp only; omega⟩ (LeX.of ?_)
     ·rw [hst, keep, if_neg (by rw [q3]; omega)] at hm
      exact hm
     ·try (conv => whnf)
      repeat (refine Need.mk ?_ ?_; (focus (first | (simp only [List.length_map, List.length_append, List.length_cons, List.length_nil, List.length_replicate]; omega) | (simp; done))); conv => whnf)
      trivial
   ·have hjc : ¬ ¬ (StOk A a ∧ StOk B b) := fun g => g ⟨ha, hb⟩
    rw [dA, List.drop_of_length_le (show b.length ≤ j by omega), mg_nil, List.append_nil] at hm
    have g1 : 256 < out.length → jC A a B b = 11 := fun h => by rw [jC, if_neg hjc, ← hm, if_pos h]
    have g2 : ¬ 256 < out.length → jC A a B b = 0 := fun h => by rw [jC, if_neg hjc, ← hm, if_neg h]
    by_cases h : 256 < out.length
    ·have g := g1 h
     try (conv => whnf)
     repeat' (first
      | (refine Pick.mk ?_ ?_ ?_; rotate_left; (focus (exact List.length_map _)); conv => whnf)
      | (refine SeqJ.thru ?_; conv => whnf)
      | (refine br_dec (fun _ => ?_) (fun _ => ?_) <;> first | (exfalso; omega) | contradiction | conv => whnf)
      | (refine br_not ?_; conv => whnf)
      | (refine br_bne (fun _ => ?_) (fun _ => ?_) <;> first | (exfalso; omega) | contradiction | conv => whnf)
      | (refine br_beq (fun _ => ?_) (fun _ => ?_) <;> first | (exfalso; omega) | contradiction | conv => whnf))
     refine Out.mk true [] [] ?_
     try (conv => whnf)
     exact ⟨by rw [jS, jE, g]; rfl, rfl⟩
    ·have g := g2 h
     have hv := vmax_len hA hB
     try (conv => whnf)
     repeat' (first
      | (refine Pick.mk ?_ ?_ ?_; rotate_left; (focus (exact List.length_map _)); conv => whnf)
      | (refine SeqJ.thru ?_; conv => whnf)
      | (refine br_dec (fun _ => ?_) (fun _ => ?_) <;> first | (exfalso; omega) | contradiction | conv => whnf)
      | (refine br_not ?_; conv => whnf)
      | (refine br_bne (fun _ => ?_) (fun _ => ?_) <;> first | (exfalso; omega) | contradiction | conv => whnf)
      | (refine br_beq (fun _ => ?_) (fun _ => ?_) <;> first | (exfalso; omega) | contradiction | conv => whnf))
     refine Hand.mk [] ?_
     try (conv => whnf)
     refine CallW.d (i_vecJoin A B hA hB) ?_
     try (conv => whnf)
     refine Out.mk true [] [] ?_
     try (conv => whnf)
     repeat (refine Pick.mk ?_ ?_ ?_; rotate_left; (focus ((refine SlF.self _ _ ?_ ?_; (first | rfl | omega | (simp; done) | (simp; omega)); (exact fun _ => rfl)))); conv => whnf)
     exact ⟨by rw [jS, jE, g, if_pos rfl, if_pos rfl, ← hm], rfl⟩
theorem i_MultiJoin (A : List Int) (a : List EntV) (B : List Int) (b : List EntV) (ha : a.length ≤ 2 ^ 62 ∧ ∀ e ∈ a, e.x.length ≤ 2 ^ 62) (hb : b.length ≤ 2 ^ 62 ∧ ∀ e ∈ b, e.x.length ≤ 2 ^ 62) :
  CallN Try.prog id_impl_MultiJoin [vM A a, vM B b] [] [] (jR A a B b) [] := by
 refine F_impl_MultiJoin ?_
 try (conv => whnf)
 repeat (refine SeqJ.thru ?_; conv => whnf)
 refine Hand.mk [] ?_
 try (conv => whnf)
 refine CallW.d (i_stateOK A a ha.1 ha.2) ?_
 try (conv => whnf)
 by_cases h1 : StOk A a
 rotate_left
 ·try (conv => whnf)
  repeat' (first
   | (refine br_dec (fun _ => ?_) (fun _ => ?_) <;> first | (exfalso; omega) | contradiction | conv => whnf)
   | (refine br_not ?_; conv => whnf)
   | (refine br_bne (fun _ => ?_) (fun _ => ?_) <;> first | (exfalso; omega) | contradiction | conv => whnf)
   | (refine br_beq (fun _ => ?_) (fun _ => ?_) <;> first | (exfalso; omega) | contradiction | conv => whnf))
  refine Out.mk true [] [] ?_
  try (conv => whnf)
  exact ⟨jErr (by rw [jC, if_pos fun g => h1 g.1]) (by omega), rfl⟩
 try (conv => whnf)
 repeat' (first
  | (refine br_dec (fun _ => ?_) (fun _ => ?_) <;> first | (exfalso; omega) | contradiction | conv => whnf)
  | (refine br_not ?_; conv => whnf)
  | (refine br_bne (fun _ => ?_) (fun _ => ?_) <;> first | (exfalso; omega) | contradiction | conv => whnf)
  | (refine br_beq (fun _ => ?_) (fun _ => ?_) <;> first | (exfalso; omega) | contradiction | conv => whnf))
 refine Hand.mk [] ?_
 try (conv => whnf)
 refine CallW.d (i_stateOK B b hb.1 hb.2) ?_
 try (conv => whnf)
 by_cases h2 : StOk B b
 rotate_left
 ·try (conv => whnf)
  repeat' (first
   | (refine br_dec (fun _ => ?_) (fun _ => ?_) <;> first | (exfalso; omega) | contradiction | conv => whnf)
   | (refine br_not ?_; conv => whnf)
   | (refine br_bne (fun _ => ?_) (fun _ => ?_) <;> first | (exfalso; omega) | contradiction | conv => whnf)
   | (refine br_beq (fun _ => ?_) (fun _ => ?_) <;> first | (exfalso; omega) | contradiction | conv => whnf))
  refine Out.mk true [] [] ?_
  try (conv => whnf)
  exact ⟨jErr (by rw [jC, if_pos fun g => h2 g.2]) (by omega), rfl⟩
 have c1 := i_joinStates A a B b h1 h2
 unfold jR
 generalize jS A a B b = S at *
 generalize jE A a B b = E at *
 generalize jC A a B b = C at *
 try (conv => whnf)
 repeat' (first
  | (refine br_dec (fun _ => ?_) (fun _ => ?_) <;> first | (exfalso; omega) | contradiction | conv => whnf)
  | (refine br_not ?_; conv => whnf)
  | (refine br_bne (fun _ => ?_) (fun _ => ?_) <;> first | (exfalso; omega) | contradiction | conv => whnf)
  | (refine br_beq (fun _ => ?_) (fun _ => ?_) <;> first | (exfalso; omega) | contradiction | conv => whnf))
 refine Hand.mk [] ?_
 try (conv => whnf)
 refine CallW.k (c1) ?_
 try (conv => whnf)
 refine Out.mk true [] [] ?_
 try (conv => whnf)
 exact ⟨rfl, rfl⟩
theorem i_SetJoin (A : List Int) (a : List EntV) (B : List Int) (b : List EntV) (ha : a.length ≤ 2 ^ 62 ∧ ∀ e ∈ a, e.x.length ≤ 2 ^ 62) (hb : b.length ≤ 2 ^ 62 ∧ ∀ e ∈ b, e.x.length ≤ 2 ^ 62) :
  CallN Try.prog id_impl_SetJoin [vM A a, vM B b] [] [] (jR A a B b) [] := by
 refine F_impl_SetJoin ?_
 try (conv => whnf)
 repeat (refine SeqJ.thru ?_; conv => whnf)
 refine Hand.mk [] ?_
 try (conv => whnf)
 refine CallW.d (i_stateOK A a ha.1 ha.2) ?_
 try (conv => whnf)
 by_cases h1 : StOk A a
 rotate_left
 ·try (conv => whnf)
  repeat' (first
   | (refine br_dec (fun _ => ?_) (fun _ => ?_) <;> first | (exfalso; omega) | contradiction | conv => whnf)
   | (refine br_not ?_; conv => whnf)
   | (refine br_bne (fun _ => ?_) (fun _ => ?_) <;> first | (exfalso; omega) | contradiction | conv => whnf)
   | (refine br_beq (fun _ => ?_) (fun _ => ?_) <;> first | (exfalso; omega) | contradiction | conv => whnf))
  refine Out.mk true [] [] ?_
  try (conv => whnf)
  exact ⟨jErr (by rw [jC, if_pos fun g => h1 g.1]) (by omega), rfl⟩
 try (conv => whnf)
 repeat' (first
  | (refine br_dec (fun _ => ?_) (fun _ => ?_) <;> first | (exfalso; omega) | contradiction | conv => whnf)
  | (refine br_not ?_; conv => whnf)
  | (refine br_bne (fun _ => ?_) (fun _ => ?_) <;> first | (exfalso; omega) | contradiction | conv => whnf)
  | (refine br_beq (fun _ => ?_) (fun _ => ?_) <;> first | (exfalso; omega) | contradiction | conv => whnf))
 refine Hand.mk [] ?_
 try (conv => whnf)
 refine CallW.d (i_stateOK B b hb.1 hb.2) ?_
 try (conv => whnf)
 by_cases h2 : StOk B b
 rotate_left
 ·try (conv => whnf)
  repeat' (first
   | (refine br_dec (fun _ => ?_) (fun _ => ?_) <;> first | (exfalso; omega) | contradiction | conv => whnf)
   | (refine br_not ?_; conv => whnf)
   | (refine br_bne (fun _ => ?_) (fun _ => ?_) <;> first | (exfalso; omega) | contradiction | conv => whnf)
   | (refine br_beq (fun _ => ?_) (fun _ => ?_) <;> first | (exfalso; omega) | contradiction | conv => whnf))
  refine Out.mk true [] [] ?_
  try (conv => whnf)
  exact ⟨jErr (by rw [jC, if_pos fun g => h2 g.2]) (by omega), rfl⟩
 have c1 := i_joinStates A a B b h1 h2
 unfold jR
 generalize jS A a B b = S at *
 generalize jE A a B b = E at *
 generalize jC A a B b = C at *
 try (conv => whnf)
 repeat' (first
  | (refine br_dec (fun _ => ?_) (fun _ => ?_) <;> first | (exfalso; omega) | contradiction | conv => whnf)
  | (refine br_not ?_; conv => whnf)
  | (refine br_bne (fun _ => ?_) (fun _ => ?_) <;> first | (exfalso; omega) | contradiction | conv => whnf)
  | (refine br_beq (fun _ => ?_) (fun _ => ?_) <;> first | (exfalso; omega) | contradiction | conv => whnf))
 refine Hand.mk [] ?_
 try (conv => whnf)
 refine CallW.k (c1) ?_
 try (conv => whnf)
 refine Out.mk true [] [] ?_
 try (conv => whnf)
 exact ⟨rfl, rfl⟩
end Go.Proofs.Ytpdjehnlejjfmaa.D
/- Logs in plain: when one is in order, and what the program's book of it holds. -/
namespace Go.Proofs.Ytpdjehnlejjfmaa.D
open Go.RowKit
set_option maxRecDepth 100000
set_option linter.unusedVariables false
set_option linter.unusedSimpArgs false

theorem snoc_ind {α : Type} {p : List α → Prop} (h0 : p []) (hs : ∀ l x, p l → p (l ++ [x])) : ∀ l, p l := by
 have : ∀ n (l : List α), l.length = n → p l := by
  intro n
  induction n with
  | zero => intro l hl; rw [List.eq_nil_of_length_eq_zero hl]; exact h0
  | succ n ih =>
   intro l hl
   have hne : l ≠ [] := by rintro rfl; simp at hl
   rw [← List.dropLast_concat_getLast hne]
   exact hs _ _ (ih _ (by simp [hl]))
 exact fun l => this _ l rfl
def own (l : List OpV) (a : Int) : List OpV := l.filter fun o => decide (o.actor = a)
def thI (k : Int) : Int := if k = 3 then 2 else k
def thS (k : Int) : Int := if k = 1 then 1 else if k = 2 ∨ k = 3 then 2 else 3
def SameTh (th : Int → Int) (l : List OpV) : Prop := ∀ a ∈ l, ∀ b ∈ l, a.obj = b.obj → th a.kind = th b.kind
theorem SameTh.sub {th : Int → Int} {l m : List OpV} (h : SameTh th l) (hm : ∀ o ∈ m, o ∈ l) : SameTh th m := fun a ha b hb e => h a (hm a ha) b (hm b hb) e
def kdOf (th : Int → Int) (l : List OpV) : List Int := l.foldl (fun k o => k.set o.obj.toNat (th o.kind)) (List.replicate 101 0)
theorem kdOf_snoc (th : Int → Int) (l : List OpV) (o : OpV) : kdOf th (l ++ [o]) = (kdOf th l).set o.obj.toNat (th o.kind) := by simp [kdOf]
@[simp] theorem kdOf_length (th : Int → Int) (l : List OpV) : (kdOf th l).length = 101 := by
 induction l using snoc_ind with
 | h0 => simp [kdOf]
 | hs l o ih => rw [kdOf_snoc]; simpa using ih
def Good1 (l : List OpV) (i : Nat) : Prop := ∀ j (h : j < l.length), j < i → OpOk l[j] ∧ (0 < j → (l[j - 1]'(by omega)).actor ≤ l[j].actor) ∧ l[j].seq = (own (l.take j) l[j].actor).length + 1
theorem Good1.zero (l : List OpV) : Good1 l 0 := fun j _ h => by omega
theorem Good1.step {l : List OpV} {i : Nat} (hi : i < l.length) (h : Good1 l i) (h1 : OpOk l[i]) (h2 : 0 < i → (l[i - 1]'(by omega)).actor ≤ l[i].actor) (h3 : l[i].seq = (own (l.take i) l[i].actor).length + 1) : Good1 l (i + 1) := fun j hj hlt => by
 rcases Nat.lt_or_ge j i with g | g
 ·exact h j hj g
 ·obtain rfl : j = i := by omega
  exact ⟨h1, h2, h3⟩
theorem Good1.at {l : List OpV} (h : Good1 l l.length) {i : Nat} (hi : i < l.length) : OpOk l[i] ∧ (0 < i → (l[i - 1]'(by omega)).actor ≤ l[i].actor) ∧ l[i].seq = (own (l.take i) l[i].actor).length + 1 := h i hi hi
theorem Good1.ok {l : List OpV} {i : Nat} (h : Good1 l i) : ∀ o ∈ l.take i, OpOk o := fun o ho => by
 obtain ⟨j, hj, rfl⟩ := List.mem_iff_getElem.1 ho
 simp at hj
 rw [List.getElem_take]
 exact (h j (by omega) (by omega)).1
theorem Good1.all {l : List OpV} (h : Good1 l l.length) : ∀ o ∈ l, OpOk o := by have := h.ok; rwa [List.take_length] at this
theorem Good1.le {l : List OpV} {i j : Nat} (h : Good1 l i) (hj : j ≤ i) : Good1 l j := fun k hk hlt => h k hk (by omega)
def CauseAt (l : List OpV) (o : OpV) (a : Nat) : Prop := o.deps.getD a 0 ≤ (own l a).length ∧ (0 < o.deps.getD a 0 → ∀ p, (own l a)[(o.deps.getD a 0 - 1).toNat]? = some p → stLt p.time p.actor o.time o.actor)
def Cause (l : List OpV) (o : OpV) : Prop := ∀ a : Nat, a < 16 → CauseAt l o a
noncomputable instance (l : List OpV) (o : OpV) : Decidable (Cause l o) := Classical.propDecidable _
structure LogOk (l : List OpV) : Prop where
 len : l.length ≤ 1024
 good : Good1 l l.length
 same : SameTh thI l
 cause : ∀ o ∈ l, Cause l o
noncomputable instance (l : List OpV) : Decidable (LogOk l) := Classical.propDecidable _
structure BookV where
 of : List (List OpV)
 kd : List Int
 size : Int
 tT : Int
 tA : Int
def BookV.zero : BookV := ⟨List.replicate 16 [], List.replicate 101 0, 0, 0, 0⟩
def BookV.put (b : BookV) (o : OpV) : BookV :=
 ⟨b.of.set o.actor.toNat (b.of.getD o.actor.toNat [] ++ [o]), b.kd.set o.obj.toNat (thI o.kind), b.size + 1, if stLt b.tT b.tA o.time o.actor then o.time else b.tT, if stLt b.tT b.tA o.time o.actor then o.actor else b.tA⟩
def bookOf (l : List OpV) : BookV := l.foldl BookV.put .zero
theorem bookOf_snoc (l : List OpV) (o : OpV) : bookOf (l ++ [o]) = (bookOf l).put o := by simp [bookOf]
@[simp] theorem book_of_length (l : List OpV) : (bookOf l).of.length = 16 := by
 induction l using snoc_ind with
 | h0 => rfl
 | hs l o ih => rw [bookOf_snoc]; simpa [BookV.put] using ih
theorem Good1.sorted {l : List OpV} (h : Good1 l l.length) : l.Pairwise (fun x y => x.actor ≤ y.actor) := by
 rw [List.pairwise_iff_getElem]
 intro i j hi hj hij
 have : ∀ n, i + n < l.length → ∀ (h1 : i < l.length) (h2 : i + n < l.length), l[i].actor ≤ l[i + n].actor := by
  intro n
  induction n with
  | zero => intro _ _ _; exact Int.le_refl _
  | succ n ih =>
   intro hn h1 h2
   have g1 := ih (by omega) h1 (by omega)
   have g2 := (h.at h2).2.1 (by omega)
   have e : i + (n + 1) - 1 = i + n := by omega
   simp only [e] at g2
   omega
 have g := this (j - i) (by omega) hi (by omega)
 have e : i + (j - i) = j := by omega
 simp only [e] at g
 exact g
def cnts (l : List OpV) : List Int := (List.range 16).map fun a : Nat => ((own l a).length : Int)
@[simp] theorem cnts_length (l : List OpV) : (cnts l).length = 16 := by simp [cnts]
end Go.Proofs.Ytpdjehnlejjfmaa.D
/- What the laws do with bytes: copied, compared, marked. -/
namespace Go.Proofs.Ytpdjehnlejjfmaa.D
open Go.RowKit
set_option maxRecDepth 100000
set_option linter.unusedVariables false
set_option linter.unusedSimpArgs false

def marks (k : Int) (n : Nat) : List UInt8 := (List.range n).map fun (i : Nat) => u8 (k + i)
@[simp] theorem marks_length (k : Int) (n : Nat) : (marks k n).length = n := by simp [marks]
end Go.Proofs.Ytpdjehnlejjfmaa.D
/- What the laws do with numbers in a row, and with operations: copied, compared, marked. -/
namespace Go.Proofs.Ytpdjehnlejjfmaa.D
open Go.RowKit
set_option maxRecDepth 100000
set_option maxHeartbeats 4000000
set_option linter.unusedVariables false
set_option linter.unusedSimpArgs false

def markIs (k : Int) (n : Nat) : List Int := (List.range n).map fun (i : Nat) => k + i
@[simp] theorem markIs_length (k : Int) (n : Nat) : (markIs k n).length = n := by simp [markIs]
end Go.Proofs.Ytpdjehnlejjfmaa.D
/- What the laws do with logs: copied, counted, compared. -/
namespace Go.Proofs.Ytpdjehnlejjfmaa.D
open Go.RowKit
set_option maxRecDepth 100000
set_option maxHeartbeats 4000000
set_option linter.unusedVariables false
set_option linter.unusedSimpArgs false

abbrev dJ (n : Int) : DV := .sc (.int .i64 n)
def oO (o : OpV) : List DV := [dJ o.actor, dJ o.seq, dJ o.time, .ow 1 0 o.deps.length (o.deps.map inD), dJ o.kind, dJ o.obj, dJ o.n, dJ o.undo, dJ o.atT, dJ o.atA, .sc (.string (bs o.key)), .sc (.string (bs o.text))]
theorem fz_op (o : OpV) : (oD o).map some = (oO o).map fzD := by
 simp only [oO, oD, fzD, List.map_cons, List.map_nil, List.drop_zero]
 rw [List.take_of_length_le (by simp)]
theorem fz_ops (l : List OpV) : Fz (l.map oO) (l.map oD) := Fz.map _ _ _ fz_op
theorem sl_ops (l : List OpV) {n : Nat} (h : n = l.length) : SlF (l.map oO) 0 n (l.map oD) := SlF.full (by simpa using h) (fz_ops l)
end Go.Proofs.Ytpdjehnlejjfmaa.D
/- Operations told to be in order, by both. -/
namespace Go.Proofs.Ytpdjehnlejjfmaa.D
open Go.RowKit
set_option maxRecDepth 100000
set_option maxHeartbeats 4000000
set_option linter.unusedVariables false
set_option linter.unusedSimpArgs false

end Go.Proofs.Ytpdjehnlejjfmaa.D
/- The reference's telling whether a log is in order. -/
namespace Go.Proofs.Ytpdjehnlejjfmaa.D
open Go.RowKit
set_option maxRecDepth 100000
set_option maxHeartbeats 4000000
set_option linter.unusedVariables false
set_option linter.unusedSimpArgs false

theorem Good1.take {l : List OpV} {i : Nat} (h : Good1 l i) (hi : i ≤ l.length) : Good1 (l.take i) (l.take i).length := fun j hj hlt => by
 simp only [List.length_take] at hj
 obtain ⟨h1, h2, h3⟩ := h j (by omega) (by omega)
 simp only [List.getElem_take, List.take_take, show min j i = j by omega]
 exact ⟨h1, h2, h3⟩
end Go.Proofs.Ytpdjehnlejjfmaa.D
/- Operations and logs: copied, compared, put in; by the reference. -/
namespace Go.Proofs.Ytpdjehnlejjfmaa.D
open Go.RowKit
set_option maxRecDepth 100000
set_option maxHeartbeats 4000000
set_option linter.unusedVariables false
set_option linter.unusedSimpArgs false

noncomputable instance : DecidableEq OpV := fun _ _ => Classical.propDecidable _
def insP (o x : OpV) : Prop := x.actor < o.actor ∨ x.actor = o.actor ∧ x.seq < o.seq
instance (o x : OpV) : Decidable (insP o x) := by unfold insP; infer_instance
end Go.Proofs.Ytpdjehnlejjfmaa.D
/- Logs in plain: an operation more; adding one to another, as the reference does. -/
namespace Go.Proofs.Ytpdjehnlejjfmaa.D
open Go.RowKit
set_option maxRecDepth 100000
set_option maxHeartbeats 4000000
set_option linter.unusedVariables false
set_option linter.unusedSimpArgs false

def below (l : List OpV) (a : Int) : Nat := (l.filter fun o => decide (o.actor < a)).length
theorem own_append (a b : List OpV) (x : Int) : own (a ++ b) x = own a x ++ own b x := by simp [own]
theorem own_cons (o : OpV) (l : List OpV) (x : Int) : own (o :: l) x = (if o.actor = x then [o] else []) ++ own l x := by
 simp only [own, List.filter_cons, decide_eq_true_eq]; split <;> simp
def opLt (x y : OpV) : Prop := x.actor < y.actor ∨ x.actor = y.actor ∧ x.seq < y.seq
theorem Good1.rise {l : List OpV} (h : Good1 l l.length) : l.Pairwise opLt := by
 rw [List.pairwise_iff_getElem]
 intro i j hi hj hij
 have hs := h.sorted
 rw [List.pairwise_iff_getElem] at hs
 have h1 := hs i j hi hj hij
 rcases Int.lt_or_eq_of_le h1 with g | g
 ·exact .inl g
 ·refine .inr ⟨g, ?_⟩
  have a1 := (h.at hi).2.2
  have a2 := (h.at hj).2.2
  rw [a1, a2, g]
  have : (own (l.take i) l[j].actor).length < (own (l.take j) l[j].actor).length := by
   have e : l.take j = l.take i ++ (l.take j).drop i := by conv => lhs; rw [← List.take_append_drop i (l.take j), List.take_take, Nat.min_eq_left (by omega)]
   rw [e, own_append, List.length_append]
   have e2 : (l.take j).drop i = l[i] :: (l.take j).drop (i + 1) := by
    rw [List.drop_eq_getElem_cons (by simp; omega)]; simp
   rw [e2, own_cons, if_pos g]; simp
  omega
theorem Good1.of {l : List OpV} (h1 : ∀ o ∈ l, OpOk o) (h2 : l.Pairwise opLt) (h3 : ∀ (a : Int) (i : Nat) (hi : i < (own l a).length), ((own l a)[i]).seq = i + 1) : Good1 l l.length := by
 intro j hj _
 refine ⟨h1 _ (List.getElem_mem _), fun h0 => ?_, ?_⟩
 ·rw [List.pairwise_iff_getElem] at h2
  rcases h2 (j - 1) j (by omega) hj (by omega) with g | g <;> omega
 ·have e : l = l.take j ++ l[j] :: l.drop (j + 1) := by rw [← List.drop_eq_getElem_cons hj, List.take_append_drop]
  have e2 : own l l[j].actor = own (l.take j) l[j].actor ++ l[j] :: own (l.drop (j + 1)) l[j].actor := by
   conv => lhs; arg 1; rw [e]
   rw [own_append, own_cons, if_pos rfl]; simp
  have hi : (own (l.take j) l[j].actor).length < (own l l[j].actor).length := by rw [e2]; simp
  have := h3 l[j].actor _ hi
  have e3 : (own l l[j].actor)[(own (l.take j) l[j].actor).length] = l[j] := by
   have : (own l l[j].actor)[(own (l.take j) l[j].actor).length]? = some l[j] := by rw [e2]; simp
   rw [List.getElem?_eq_getElem hi] at this; injection this
  rw [e3] at this; exact this
end Go.Proofs.Ytpdjehnlejjfmaa.D
/- The reference's telling whether a log is in order: the whole. -/
namespace Go.Proofs.Ytpdjehnlejjfmaa.D
open Go.RowKit
set_option maxRecDepth 100000
set_option maxHeartbeats 4000000
set_option linter.unusedVariables false
set_option linter.unusedSimpArgs false

end Go.Proofs.Ytpdjehnlejjfmaa.D
/- Adding a log to another, as the reference does. -/
namespace Go.Proofs.Ytpdjehnlejjfmaa.D
open Go.RowKit
set_option maxRecDepth 100000
set_option maxHeartbeats 4000000
set_option linter.unusedVariables false
set_option linter.unusedSimpArgs false

def fitsL (l : List OpV) (o : OpV) : Prop := o.seq = (own l o.actor).length + 1 ∧ Cause l o
def kfL (l : List OpV) (o : OpV) : Prop := ∀ a ∈ l, a.obj = o.obj → thS a.kind = thS o.kind
noncomputable instance (l : List OpV) (o : OpV) : Decidable (fitsL l o) := Classical.propDecidable _
noncomputable instance (l : List OpV) (o : OpV) : Decidable (kfL l o) := Classical.propDecidable _
theorem Cause.mono {l m : List OpV} {x : OpV} (h : Cause l x) (hm : ∀ a, ∃ t, own m a = own l a ++ t) : Cause m x := by
 intro a ha
 obtain ⟨t, ht⟩ := hm a
 obtain ⟨h1, h2⟩ := h a ha
 refine ⟨by rw [ht, List.length_append]; omega, fun h0 p hp => h2 h0 p ?_⟩
 rw [ht, List.getElem?_append_left (by omega)] at hp; exact hp
abbrev sameN (x o : OpV) : Prop := x.actor = o.actor ∧ x.seq = o.seq
def twin (w : List OpV) (o : OpV) : Prop := ∃ x ∈ w, sameN x o
noncomputable instance (w : List OpV) (o : OpV) : Decidable (twin w o) := Classical.propDecidable _
end Go.Proofs.Ytpdjehnlejjfmaa.D
/- The source that the laws draw from: bytes, numbers, words. -/
namespace Go.Proofs.Ytpdjehnlejjfmaa.D
open Go.RowKit
set_option maxRecDepth 100000
set_option linter.unusedVariables false
set_option linter.unusedSimpArgs false

abbrev srcR (code : List UInt8) (a s : Int) : Row := .box [cY code, cI a, cI s]
structure Src (code : List UInt8) (a s b : Int) : Prop where
 len : code.length ≤ 2 ^ 40
 lo : 0 ≤ a
 hi : a ≤ b
 slo : 0 ≤ s
 shi : s < 2147483648
theorem Src.mono {code : List UInt8} {a s b c : Int} (h : Src code a s b) (hc : b ≤ c) : Src code a s c := ⟨h.len, h.lo, Int.le_trans h.hi hc, h.slo, h.shi⟩
def Draws (code : List UInt8) (b : Int) (Q : SV → List Row → Prop) : SV → List Row → Prop :=
 fun r Lo => ∃ a' s' Lo', Lo = srcR code a' s' :: Lo' ∧ Src code a' s' b ∧ Q r Lo'
abbrev DI (Q : Int → Prop) : SV → List Row → Prop := fun r Lo => ∃ v, Lo = [] ∧ r = vI .i64 v ∧ Q v
abbrev DT (Q : List UInt8 → Prop) : SV → List Row → Prop := fun r Lo => ∃ v, Lo = [] ∧ r = vS (bs v) ∧ Q v
theorem s_l01Source (code : List UInt8) (hc : code.length ≤ 2 ^ 40) :
  CallM Try.prog id_spec_l01Source [vY code] [] [] false fun r Lo => ∃ s, Lo = [srcR code 0 s] ∧ r = .one (.ptr 0 0) ∧ Src code 0 s 0 := by
 refine F_spec_l01Source ?_
 try (conv => whnf)
 repeat (first
  | (refine Need.mk ?_ ?_; (focus (omega)); conv => whnf)
  | (refine Pick.mk ?_ ?_ ?_; rotate_left; (focus (first | exact List.length_map _ | (refine tmodn ?_; omega))); conv => whnf))
 refine Out.mk false [0, 1, 2, 3, 4] [] ?_
 try (conv => whnf)
 exact ⟨_, rfl, rfl, hc, by omega, by omega, by omega, by omega⟩
theorem tmod_lt {n : Int} (h0 : 0 ≤ n) (m : Int) (hm : 0 < m) : 0 ≤ n.tmod m ∧ n.tmod m < m := by
 rw [Int.tmod_eq_emod_of_nonneg h0]
 exact ⟨Int.emod_nonneg _ (by omega), Int.emod_lt_of_pos _ hm⟩
section
variable {code : List UInt8} {a s b : Int}
theorem s_byte (hS : Src code a s b) (hb : b ≤ 2 ^ 60) :
  CallM Try.prog id_spec_l01Src_byte [.one (.ptr 0 0)] [srcR code a s] [] false (Draws code (b + 1) (DI fun v => 0 ≤ v ∧ v ≤ 255)) := by
 refine F_spec_l01Src_byte ?_
 obtain ⟨hc, h0, h1, h2, h3⟩ := hS
 try (conv => whnf)
 repeat' (first
  | (refine Need.mk ?_ ?_; (focus (omega)); conv => whnf)
  | (refine Pick.mk ?_ ?_ ?_; rotate_left; (focus (first | exact List.length_map _ | (refine wid ?_ ?_ <;> omega) | exact wby _ | (refine tmodn ?_; omega) | (refine wdiv ?_ ?_ ?_ <;> omega) | (refine pick_int _ _ _ ?_ ?_ <;> omega) | ((fail_if_success (show @Eq (Option _) _ _)); rfl))); conv => whnf)
  | (refine SeqJ.thru ?_; conv => whnf)
  | (refine br_dec (fun _ => ?_) (fun _ => ?_) <;> first | (exfalso; omega) | contradiction | conv => whnf)
  | (refine br_not ?_; conv => whnf)
  | (refine br_bne (fun _ => ?_) (fun _ => ?_) <;> first | (exfalso; omega) | contradiction | conv => whnf)
  | (refine br_beq (fun _ => ?_) (fun _ => ?_) <;> first | (exfalso; omega) | contradiction | conv => whnf))
 ·refine Out.mk false [0, 1, 2, 3, 4] [] ?_
  try (conv => whnf)
  have hb := byLt (code[(a + 1 - 1).toNat]'(by omega))
  rw [wid (x := s * 31 + _) (by omega) (by omega), wid (by omega) (by omega)]
  have ht := tmod_lt (n := s * 31 + ((code[(a + 1 - 1).toNat]'(by omega)).toNat : Int) + 7) (by omega) 2147483648 (by omega)
  exact ⟨a + 1, _, [], rfl, ⟨hc, by omega, by omega, ht.1, ht.2⟩, _, rfl, rfl, by omega, by omega⟩
 ·refine Out.mk false [0, 1, 2, 3, 4] [] ?_
  try (conv => whnf)
  exact ⟨a + 1, s, [], rfl, ⟨hc, by omega, by omega, by omega, by omega⟩, _, rfl, rfl, by omega, by omega⟩
 ·refine Out.mk false [0, 1, 2, 3, 4] [] ?_
  try (conv => whnf)
  exact ⟨a + 1, _, [], rfl, ⟨hc, by omega, by omega, by omega, by omega⟩, _, rfl, rfl, by omega, by omega⟩
theorem s_next (hS : Src code a s b) (hb : b ≤ 2 ^ 59) (n : Int) (hn : n ≤ 2 ^ 62) :
  CallM Try.prog id_spec_l01Src_next [.one (.ptr 0 0), vI .i64 n] [srcR code a s] [] false (Draws code (b + 3) (DI fun v => 0 ≤ v ∧ (v < n ∨ v = 0))) := by
 refine F_spec_l01Src_next ?_
 try (conv => whnf)
 repeat' (first
  | (refine SeqJ.thru ?_; conv => whnf)
  | (refine br_dec (fun _ => ?_) (fun _ => ?_) <;> first | (exfalso; omega) | contradiction | conv => whnf)
  | (refine br_not ?_; conv => whnf)
  | (refine br_bne (fun _ => ?_) (fun _ => ?_) <;> first | (exfalso; omega) | contradiction | conv => whnf)
  | (refine br_beq (fun _ => ?_) (fun _ => ?_) <;> first | (exfalso; omega) | contradiction | conv => whnf))
 ·refine Out.mk false [0, 1, 2, 3, 4] [] ?_
  try (conv => whnf)
  exact ⟨a, s, [], rfl, hS.mono (by omega), _, rfl, rfl, by omega, by omega⟩
 ·refine Hand.mk [] ?_
  try (conv => whnf)
  refine CallW.n (s_byte hS (by omega)) ?_
  rintro _ _ ⟨a1, s1, _, rfl, hS1, v1, rfl, rfl, hv1⟩
  try (conv => whnf)
  repeat (first
   | (refine Need.mk ?_ ?_; (focus (omega)); conv => whnf)
   | (refine Pick.mk ?_ ?_ ?_; rotate_left; (focus ((refine tmodn ?_; omega))); conv => whnf))
  refine Out.mk false [0, 1, 2, 3, 4] [] ?_
  try (conv => whnf)
  have := Int.emod_nonneg v1 (show n ≠ 0 by omega)
  have := Int.emod_lt_of_pos v1 (show 0 < n by omega)
  exact ⟨_, _, [], rfl, hS1.mono (by omega), _, rfl, rfl, by omega, by omega⟩
 ·refine Hand.mk [] ?_
  try (conv => whnf)
  refine CallW.n (s_byte hS (by omega)) ?_
  rintro _ _ ⟨a1, s1, _, rfl, hS1, v1, rfl, rfl, hv1⟩
  try (conv => whnf)
  repeat (refine Pick.mk ?_ ?_ ?_; rotate_left; (focus ((refine wid ?_ ?_ <;> omega))); conv => whnf)
  refine Hand.mk [] ?_
  try (conv => whnf)
  refine CallW.n (s_byte hS1 (by omega)) ?_
  rintro _ _ ⟨a2, s2, _, rfl, hS2, v2, rfl, rfl, hv2⟩
  try (conv => whnf)
  repeat (refine Pick.mk ?_ ?_ ?_; rotate_left; (focus ((refine wid ?_ ?_ <;> omega))); conv => whnf)
  refine Hand.mk [] ?_
  try (conv => whnf)
  refine CallW.n (s_byte hS2 (by omega)) ?_
  rintro _ _ ⟨a3, s3, _, rfl, hS3, v3, rfl, rfl, hv3⟩
  try (conv => whnf)
  repeat (first
   | (refine Need.mk ?_ ?_; (focus (omega)); conv => whnf)
   | (refine Pick.mk ?_ ?_ ?_; rotate_left; (focus (first | (refine wid ?_ ?_ <;> omega) | (refine tmodn ?_; omega))); conv => whnf))
  refine Out.mk false [0, 1, 2, 3, 4] [] ?_
  try (conv => whnf)
  have := Int.emod_nonneg (v1 * 65536 + v2 * 256 + v3) (show n ≠ 0 by omega)
  have := Int.emod_lt_of_pos (v1 * 65536 + v2 * 256 + v3) (show 0 < n by omega)
  exact ⟨_, _, [], rfl, hS3.mono (by omega), _, rfl, rfl, by omega, by omega⟩
def isT (k : Nat) : List DV → Bool
 | [.sc (.string s)] => Nat.ble s.size k
 | _ => false
theorem pickT {es : List (List DV)} {n : Nat} {X : List DV → Prop} (k : Nat) (hk : es.all (isT k) = true) (hn : n < es.length) (h : ∀ t : List UInt8, t.length ≤ k → X (stD (bs t))) : Pick (fun c => es[n]? = some c) X := by
 have h1 := List.all_eq_true.1 hk es[n] (List.getElem_mem _)
 have h2 : es[n]? = some es[n] := List.getElem?_eq_getElem hn
 unfold isT at h1
 split at h1
 ·rename_i s he
  obtain ⟨t, rfl⟩ := bs_all s
  exact ⟨_, h2.trans (by rw [he]), h t (by simpa using Nat.le_of_ble_eq_true h1)⟩
 ·simp at h1
def isI (p : Int → Bool) : List DV → Bool
 | [.sc (.int .i64 n)] => p n
 | _ => false
theorem pickI {es : List (List DV)} {n : Nat} {X : List DV → Prop} (p : Int → Bool) (hk : es.all (isI p) = true) (hn : n < es.length) (h : ∀ x : Int, p x = true → X (inD x)) : Pick (fun c => es[n]? = some c) X := by
 have h1 := List.all_eq_true.1 hk es[n] (List.getElem_mem _)
 have h2 : es[n]? = some es[n] := List.getElem?_eq_getElem hn
 unfold isI at h1
 split at h1
 ·rename_i x he
  exact ⟨_, h2.trans (by rw [he]), h x h1⟩
 ·simp at h1
theorem s_word (hS : Src code a s b) (hb : b ≤ 2 ^ 59) :
  CallM Try.prog id_spec_l01Src_word [.one (.ptr 0 0)] [srcR code a s] [] false (Draws code (b + 3) (DT fun v => v.length ≤ 5)) := by
 refine F_spec_l01Src_word ?_
 try (conv => whnf)
 repeat (refine Pick.mk ?_ ?_ ?_; rotate_left; (focus ((simp only [chunks]; rfl))); conv => whnf)
 refine Hand.mk [] ?_
 try (conv => whnf)
 refine CallW.n (s_next hS hb 10 (by omega)) ?_
 rintro _ _ ⟨a1, s1, _, rfl, hS1, v1, rfl, rfl, hv1⟩
 try (conv => whnf)
 repeat (refine Need.mk ?_ ?_; (focus (omega)); conv => whnf)
 refine pickT 5 rfl (by rw [addN_eq]; show _ < 10; omega) fun t ht => ?_
 try (conv => whnf)
 refine Out.mk false [0, 1, 2, 3, 4] [] ?_
 try (conv => whnf)
 exact ⟨_, _, [], rfl, hS1, _, rfl, rfl, ht⟩
end
end Go.Proofs.Ytpdjehnlejjfmaa.D
