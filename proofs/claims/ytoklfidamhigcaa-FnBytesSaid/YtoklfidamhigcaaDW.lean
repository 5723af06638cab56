/- States written out as lists; a state that says less. -/
import Derived.Test.YtoklfidamhigcaaDU
namespace Go.Proofs.Ytoklfidamhigcaa.D
open Go.RowKit

def look (ts : List (Nat × SV)) : Nat → SV := fun t => match ts with | [] => .one .dead | (i, v) :: r => if t = i then v else look r t
def lookL (ls : List (Nat × Row)) : Nat → Option Row := fun p => match ls with | [] => none | (i, r) :: rest => if p = i then some r else lookL rest p
def mk (ts : List (Nat × SV)) (ls : List (Nat × Row)) (mv : List Nat := []) : St := ⟨look ts, lookL ls, mv⟩

/-- An own slice whose row goes out of sight is read from then on. -/
def froz (S : St) (ls : List (Nat × Row)) (c : CV) (xs : List (List DV)) : Prop :=
  ∃ p k off len es, c = .os p k off len ∧ lookL ls p = none ∧ 1000 ≤ p ∧ S.L p = some (.own k es) ∧ off + len ≤ es.length ∧ (es.drop off).take len = xs
def cle (S : St) (ls : List (Nat × Row)) (c c' : CV) : Prop :=
  match c' with
  | .dead => True
  | .os p k off len => c = .os p k off len ∨ (c = .nil ∧ len = 0)
  | .dv (.sl es) => c = .dv (.sl es) ∨ (c = .nil ∧ es = []) ∨ froz S ls c es
  | c' => c = c'
def csle (S : St) (ls : List (Nat × Row)) : List CV → List CV → Prop
  | [], [] => True
  | c :: cs, c' :: cs' => cle S ls c c' ∧ csle S ls cs cs'
  | _, _ => False
def sle (S : St) (ls : List (Nat × Row)) (s s' : SV) : Prop :=
  match s', s with
  | .one .dead, _ => True
  | .one c', .one c => cle S ls c c'
  | .agg cs', .agg cs => csle S ls cs cs'
  | _, _ => False
/-- All names that are spoken of are there. -/
def refC (ls : List (Nat × Row)) : CV → Prop
  | .os p _ _ _ => (lookL ls p).isSome = true
  | .ptr p _ => (lookL ls p).isSome = true
  | .ep p _ _ _ => (lookL ls p).isSome = true
  | .sb .. => False
  | _ => True
def refCs (ls : List (Nat × Row)) : List CV → Prop | [] => True | c :: cs => refC ls c ∧ refCs ls cs
def refS (ls : List (Nat × Row)) : SV → Prop | .one c => refC ls c | .agg cs => refCs ls cs | .tup _ => False
def leT (S : St) (ls : List (Nat × Row)) : List (Nat × SV) → Prop
  | [] => True
  | (i, v) :: r => (sle S ls (S.T i) v ∧ refS ls v) ∧ leT S ls r
def leL (S : St) (ls : List (Nat × Row)) : List (Nat × Row) → Prop
  | [] => True
  | (p, r) :: rest =>
    (match r with
    | .box cs' => (match S.L p with | some (.box cs) => csle S ls cs cs' ∧ refCs ls cs' | _ => False)
    | .own k es => (match S.L p with | some r0 => r0 = .own k es | none => es = [] ∧ 1000 ≤ p)) ∧ leL S ls rest

section
variable {w0 : World} {M : Rows0} {N : Nat} {V V1 : View} {bs : Loc} {S : St} {a : Act} {w : World} {ls : List (Nat × Row)}
theorem cle_ok (hs : Sat1 w0 M N V bs S a w) (hV : V.le V1) (hcov : ∀ p b n, lookL ls p = none → 1000 ≤ p → bs p = some (b, n) → ∀ x u, x.block = b → w.cell? x = some u → V1 x = some u)
    {c c' : CV} {v : Value} (h : CR V bs c v) (hc : cle S ls c c') : CR V1 bs c' v := by
  have mono : ∀ {c : CV}, CR V bs c v → CR V1 bs c v := fun h => h.mono hV fun _ _ h => h
  unfold cle at hc
  split at hc
  · exact .dead _
  · rcases hc with rfl | ⟨rfl, rfl⟩
    · exact mono h
    · cases h; exact .oszero
  · rcases hc with rfl | ⟨rfl, rfl⟩ | ⟨p, k, off, len, es, rfl, h1, h2, h3, h4, rfl⟩
    · exact mono h
    · cases h; exact .dv (.nil _ _)
    · exact .dv (own_rd hs h3 (fun _ _ _ _ _ h => h.mono hV) (fun b n hb => hcov p b n h1 h2 hb) h h4)
  · subst hc; exact mono h
theorem csle_ok (hs : Sat1 w0 M N V bs S a w) (hV : V.le V1) (hcov : ∀ p b n, lookL ls p = none → 1000 ≤ p → bs p = some (b, n) → ∀ x u, x.block = b → w.cell? x = some u → V1 x = some u)
    {cs : List CV} {vs : List Value} (h : CRs V bs cs vs) : ∀ {cs' : List CV}, csle S ls cs cs' → CRs V1 bs cs' vs := by
  induction h with
  | nil => intro cs' hc; cases cs' with
    | nil => exact .nil
    | cons => simp [csle] at hc
  | cons h _ ih =>
    intro cs' hc
    cases cs' with
    | nil => simp [csle] at hc
    | cons c' cs' => exact .cons (cle_ok hs hV hcov h hc.1) (ih hc.2)
end
theorem refC_ok {V : View} {bs bs' : Loc} {ls : List (Nat × Row)} (hb : ∀ p, (lookL ls p).isSome = true → bs' p = bs p) {c : CV} {v : Value} (h : CR V bs c v) (hr : refC ls c) : CR V bs' c v := by
  cases h with
  | dead => exact .dead _
  | nil => exact .nil
  | dv h => exact .dv h
  | os h hl hc => exact .os (by rw [hb _ hr]; exact h) hl hc
  | oszero => exact .oszero
  | ptr h => exact .ptr (by rw [hb _ hr]; exact h)
  | ep h => exact .ep (by rw [hb _ hr]; exact h)
  | sb h => exact hr.elim
  | dp h1 h2 => exact .dp h1 h2
theorem refCs_ok {V : View} {bs bs' : Loc} {ls : List (Nat × Row)} (hb : ∀ p, (lookL ls p).isSome = true → bs' p = bs p) {cs : List CV} {vs : List Value} (h : CRs V bs cs vs) : refCs ls cs → CRs V bs' cs vs := by
  induction h with
  | nil => intro _; exact .nil
  | cons h _ ih => intro hr; exact .cons (refC_ok hb h hr.1) (ih hr.2)

theorem leT_get {S : St} {ls : List (Nat × Row)} : ∀ {ts : List (Nat × SV)}, leT S ls ts → ∀ t, look ts t = .one .dead ∨ (sle S ls (S.T t) (look ts t) ∧ refS ls (look ts t))
  | [], _, t => .inl rfl
  | (i, v) :: r, h, t => by
    unfold look
    split
    · rename_i e; subst e; exact .inr h.1
    · exact leT_get h.2 t
theorem leL_get {S : St} {ls : List (Nat × Row)} : ∀ {rest : List (Nat × Row)}, leL S ls rest → ∀ p r, lookL rest p = some r →
    (match r with
    | .box cs' => (match S.L p with | some (.box cs) => csle S ls cs cs' ∧ refCs ls cs' | _ => False)
    | .own k es => (match S.L p with | some r0 => r0 = .own k es | none => es = [] ∧ 1000 ≤ p))
  | [], _, p, r, h => by simp [lookL] at h
  | (i, r0) :: rest, h, p, r, hp => by
    unfold lookL at hp
    split at hp
    · rename_i e; subst e; injection hp with hp; subst hp; exact h.1
    · exact leL_get h.2 p r hp

open Classical in
/-- A state written out that says less than S. -/
theorem le_mk {S : St} {ts : List (Nat × SV)} {ls : List (Nat × Row)} {mv : List Nat} (ht : leT S ls ts) (hl : leL S ls ls) (hm : ∀ p ∈ S.mv, p ∈ mv ∨ 1000 ≤ p) : Le S (mk ts ls mv) := by
  rintro w0 M N V0 a w ⟨V, bs, h0, h1, hs⟩
  let V1 : View := fun x => match V x with | some u => some u | none => if ∃ p b m, lookL ls p = none ∧ 1000 ≤ p ∧ bs p = some (b, m) ∧ x.block = b then w.cell? x else none
  have hV : V.le V1 := fun x u hx => by simp only [V1, hx]
  have hV' : ∀ x u, V1 x = some u → V x = some u ∨ ((∃ p b m, lookL ls p = none ∧ 1000 ≤ p ∧ bs p = some (b, m) ∧ x.block = b) ∧ w.cell? x = some u) := fun x u hx => by
    simp only [V1] at hx
    split at hx
    · rename_i y hy; simp at hx; subst hx; exact .inl hy
    · split at hx
      · rename_i hb; exact .inr ⟨hb, hx⟩
      · simp at hx
  have hcov : ∀ p b n, lookL ls p = none → 1000 ≤ p → bs p = some (b, n) → ∀ x u, x.block = b → w.cell? x = some u → V1 x = some u := fun p b n hp hp2 hbp x u hx hu => by
    cases hVx : V x with
    | some y => rw [hV _ _ hVx]; rw [hs.view _ _ hVx] at hu; exact hu
    | none => simp only [V1, hVx]; rw [if_pos ⟨p, b, n, hp, hp2, hbp, hx⟩]; exact hu
  let bs' : Loc := fun p => if (lookL ls p).isSome = true then bs p else none
  have hb : ∀ p, (lookL ls p).isSome = true → bs' p = bs p := fun p hp => by simp only [bs', hp, if_true]
  have hb2 : ∀ p x, bs' p = some x → bs p = some x ∧ (lookL ls p).isSome = true := fun p x hx => by
    simp only [bs'] at hx
    split at hx
    · rename_i hp; exact ⟨hx, hp⟩
    · simp at hx
  refine ⟨V1, bs', h0.trans hV, fun x u hx => ?_, hs.keep, fun x u hx => (hV' x u hx).elim (hs.view x u) (·.2), fun x v p b n hx hp => ?_, fun p q b n n' hp hq => hs.inj _ _ _ _ _ (hb2 _ _ hp).1 (hb2 _ _ hq).1, fun p b n hp => hs.fresh _ _ _ (hb2 _ _ hp).1,
    fun p r hp hlt hmv => ?_, hs.ml, fun p hp => ?_, fun p r hp => ?_, fun t => ?_, hs.defers, hs.nt⟩
  · rcases hV' x u hx with h2 | ⟨⟨p, b, m, _, h3, h4, h5⟩, _⟩
    · exact h1 x u h2
    · rw [h5]
      refine .inr ((hs.fresh _ _ _ h4).1.resolve_right fun h6 => ?_)
      have := (List.getElem?_eq_some_iff.1 h6).1
      have := hs.ml; omega
  · obtain ⟨g1, g2⟩ := hb2 _ _ hp
    rcases hV' x v hx with h2 | ⟨⟨q, b', m, h3, _, h4, h5⟩, _⟩
    · exact hs.apart _ _ _ _ _ h2 g1
    · rw [h5]; rintro rfl
      have := hs.inj _ _ _ _ _ h4 g1; subst this
      rw [h3] at g2; simp at g2
  · have hp : lookL ls p = some r := hp
    rw [hb p (by rw [hp]; rfl)]
    have := leL_get hl p r hp
    cases hSL : S.L p with
    | some r0 => exact hs.par p r0 hSL hlt fun h => (hm p h).elim hmv fun h => by have := hs.ml; omega
    | none =>
      have hml := hs.ml
      rw [hSL] at this
      cases r with
      | box => exact this.elim
      | own k es => omega
  · have hp : lookL ls p = none := hp
    simp [bs', hp]
  · have hp : lookL ls p = some r := hp
    have hpb := hb p (by rw [hp]; rfl)
    rw [hpb]
    have := leL_get hl p r hp
    cases r with
    | box cs' =>
      simp only at this
      split at this
      · rename_i cs hSL
        rcases hs.rows p _ hSL with ⟨b, n, h2, g1, g2, vs, g3, g4⟩ | ⟨_, k, hk⟩
        · have g5 := csle_ok hs hV hcov g3 this.1
          exact .inl ⟨b, n, h2, by rw [g1, g3.length, g5.length], g2, vs, refCs_ok hb g5 this.2, g4⟩
        · simp at hk
      · exact this.elim
    | own k es =>
      simp only at this
      split at this
      · rename_i r0 hSL
        subst this
        refine (hs.rows p _ hSL).imp (fun ⟨b, n, h2, h3⟩ => ⟨b, n, h2, ?_⟩) id
        obtain ⟨g1, g2, g3, g4⟩ := h3
        exact ⟨g1, g2, g3, fun i j hi hj => by obtain ⟨v, g5, g6⟩ := g4 i j hi hj; exact ⟨v, g5, g6.mono hV⟩⟩
      · rename_i hSL
        obtain ⟨rfl, _⟩ := this
        exact .inr ⟨hs.dom p hSL, k, rfl⟩
  · show VR V1 bs' (look ts t) _
    rcases leT_get ht t with h | ⟨h2, h3⟩
    · rw [h]; exact .one (.dead _)
    · have hv := hs.tmps t
      generalize look ts t = s' at h2 h3
      generalize S.T t = s at h2 hv
      generalize a.tmps.getD t undef = u at hv ⊢
      unfold sle at h2
      split at h2
      · exact .one (.dead _)
      · exact .one (refC_ok hb (cle_ok hs hV hcov (vr_one hv) h2) h3)
      · cases hv with
        | agg hc => exact .agg (refCs_ok hb (csle_ok hs hV hcov hc h2) h3)
      · exact h2.elim
end Go.Proofs.Ytoklfidamhigcaa.D
