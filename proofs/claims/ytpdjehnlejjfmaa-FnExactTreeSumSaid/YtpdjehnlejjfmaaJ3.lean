/- A call, from the caller's side. -/
import Derived.Test.YtpdjehnlejjfmaaJ2
set_option linter.unusedVariables false
set_option linter.unusedSimpArgs false
namespace Go.Proofs.Ytpdjehnlejjfmaa.D
open Go.RowKit
set_option maxHeartbeats 1000000

def reW (d : DV) (es' : List (List DV)) : DV := match d with | .ow k off len _ => .ow k off len es' | d => d
def setH (L : Nat → Option Row) (p a b : Nat) (r : Row) : Nat → Option Row :=
 match r, L p with
 | .own _ es', some (.own k0 es0) => upd L p (some (.own k0 (es0.set a ((es0.getD a []).set b (reW ((es0.getD a []).getD b .no) es')))))
 | _, _ => L
def setRow (ps : List Nm) (nm i : Nat) (r : Row) (L : Nat → Option Row) : Nat → Option Row :=
 match backV ps nm i with
 | .v p => upd L p (some (mapR (backC ps nm) r))
 | .h p a b => setH L p a b r
def setRows (ps : List Nm) (nm : Nat) : Nat → List Row → (Nat → Option Row) → Nat → Option Row
 | _, [], L => L
 | i, r :: rs, L => setRows ps nm (i + 1) rs (setRow ps nm i r L)

def killAll (ks : List Nat) (c : CV) : CV := match ks with | [] => c | k :: ks => killAll ks (killC k c)
def killHAll (ks : List Nat) (c : CV) : CV := match ks with | [] => c | k :: ks => killHAll ks (killHC k c)
theorem killAll_dv : ∀ (ks : List Nat) (d : DV), killAll ks (.dv d) = .dv d
 | [], _ => rfl
 | _ :: ks, d => killAll_dv ks d
theorem killHAll_dv : ∀ (ks : List Nat) (d : DV), killHAll ks (.dv d) = .dv d
 | [], _ => rfl
 | _ :: ks, d => killHAll_dv ks d
theorem killAll_ok {V : View} {bs' : Loc} : ∀ {ks : List Nat} {bs : Loc} {c : CV} {v : Value}, (∀ q : Nm, q.top ∉ ks → ∀ x, bs q = some x → bs' q = some x) → CR V bs c v → CR V bs' (killAll ks c) v
 | [], bs, c, v, hb, h => h.mono (View.le.refl V) fun q x => hb q (by simp) x
 |k :: ks, bs, c, v, hb, h => by
  refine killAll_ok (ks := ks) (V := V) (bs := fun q => if q.top = k then bs' q else bs q) (fun q hq x hx => ?_) (killC_ok (View.le.refl V) (fun q hq x hx => ?_) h)
  ·split at hx
   ·exact hx
   ·rename_i e; exact hb q (by simp [e, hq]) x hx
  ·simp only [hq, if_false]; exact hx
theorem killHAll_ok {V : View} {bs' : Loc} : ∀ {ks : List Nat} {bs : Loc} {c : CV} {v : Value}, (∀ q : Nm, (∀ r i j, q = .h r i j → r ∉ ks) → ∀ x, bs q = some x → bs' q = some x) → CR V bs c v → CR V bs' (killHAll ks c) v
 | [], bs, c, v, hb, h => h.mono (View.le.refl V) fun q x => hb q (fun _ _ _ _ => by simp) x
 |k :: ks, bs, c, v, hb, h => by
  refine killHAll_ok (ks := ks) (V := V) (bs := fun q => match q with | .h r i j => if r = k then bs' (.h r i j) else bs (.h r i j) | q => bs q) (fun q hq x hx => ?_) (killHC_ok (p := k) (View.le.refl V) (fun q hq x hx => ?_) h)
  ·cases q with
   | v r => exact hb (.v r) (fun _ _ _ h => by simp at h) x hx
   | h r i j =>
    simp only at hx
    split at hx
    ·exact hx
    ·rename_i e; exact hb (.h r i j) (fun r' i' j' h => by injection h with h; subst h; simp [e, hq r i j rfl]) x hx
  ·cases q with
   | v r => exact hx
   | h r i j => simp only; rw [if_neg (by rintro rfl; exact hq i j rfl)]; exact hx
def movN (ps : List Nm) (mv : List Nat) : List Nat := mv.filterMap fun (i : Nat) => match ps[i]? with | some (Nm.v p) => some p | _ => none
def St.after (S : St) (ps : List Nm) (nm : Nat) (hk mv : List Nat) (Lo : List Row) : St :=
 { T := fun t => mapS (fun c => killHAll hk (killAll (movN ps mv) c)) (S.T t), L := setRows ps nm 0 Lo fun q => (S.L q).map (mapR fun c => killHAll hk (killAll (movN ps mv) c)), mv := movN ps mv ++ S.mv }
def hidOk (S : St) (ps : List Nm) (mv : List Nat) (Lo : List Row) : Prop :=
 ∀ (i p a b : Nat), ps[i]? = some (Nm.h p a b) → i ∉ mv ∧ ∃ k es' k0 es0 e off len es, Lo[i]? = some (.own k es') ∧ S.L p = some (.own k0 es0) ∧ es0[a]? = some e ∧ e[b]? = some (.ow k off len es) ∧ off + len ≤ es'.length ∧ Fz es' es' ∧ (es = [] → off = 0 ∧ len = 0)
structure PsOk (S : St) (ps : List Nm) (hk : List Nat) : Prop where
 nd : ps.Nodup
 hov : ∀ p a b, (Nm.h p a b) ∈ ps → (Nm.v p) ∉ ps
 one : ∀ (i j p a b q c d : Nat), ps[i]? = some (Nm.h p a b) → ps[j]? = some (Nm.h q c d) → i = j
 hk : ∀ p, (Nm.v p) ∈ ps → p ∈ hk ∨ ∃ cs, S.L p = some (.box cs)
 len : ps.length ≤ 1000
def callD (P : Program) (nm : Nat) (S : St) (dst : Option Tmp) (fv : SV) (args : List SV) (K : St → Prop) : Prop :=
 ∃ (ps : List Nm) (hk : List Nat) (bor : Bool) (f : FuncId), fv = .one (.dv (.sc (.func (.func f) #[] #[]))) ∧ (PsOk S ps hk ∧ 1000 ≤ nm) ∧
  argSs bor S ps args fun args' => rowsD bor S ps ps fun Li => ∃ mv cl Post, CallM P f args' Li mv cl Post ∧ (bor = true → cl = true) ∧ ∀ res Lo, Post res Lo →
   ((∀ j, j < Lo.length - ps.length → S.L (nm + j) = none) ∧ Lo.length ≤ 100000 ∧ hidOk S ps mv Lo) ∧ K ((S.after ps nm hk mv Lo).put dst (mapS (backC ps nm) res))

theorem setRow_other {ps : List Nm} {nm i : Nat} {r : Row} {L : Nat → Option Row} {q : Nat} (h : (backV ps nm i).top ≠ q) : setRow ps nm i r L q = L q := by
 cases e : backV ps nm i with
 | v p => rw [e] at h; simp only [setRow, e]; exact upd_ne _ _ _ _ (Ne.symm h)
 | h p a b =>
  rw [e] at h; simp only [setRow, e, setH]
  cases r with
  | box => rfl
  | own k es' =>
   cases hLp : L p with
   | none => rfl
   |some r1 => cases r1 with
    | box => rfl
    | own => exact upd_ne _ _ _ _ (Ne.symm h)
theorem setRows_other (ps : List Nm) (nm : Nat) : ∀ (rs : List Row) (i : Nat) (L : Nat → Option Row) (q : Nat), (∀ j, j < rs.length → (backV ps nm (i + j)).top ≠ q) → setRows ps nm i rs L q = L q
 | [], _, _, _, _ => rfl
 |r :: rs, i, L, q, h => by
  rw [setRows, setRows_other ps nm rs (i + 1) _ q (fun j hj => by have := h (j + 1) (by simp; omega); rwa [show i + (j + 1) = i + 1 + j by omega] at this)]
  exact setRow_other (by have := h 0 (by simp); simpa using this)
theorem setRows_at (ps : List Nm) (nm : Nat) : ∀ (rs : List Row) (i j : Nat) (L : Nat → Option Row) (q : Nat) (r : Row), rs[j]? = some r → (backV ps nm (i + j)).top = q → (∀ j', j' < rs.length → (backV ps nm (i + j')).top = q → j' = j) →
  setRows ps nm i rs L q = setRow ps nm (i + j) r (fun q' => if q' = q then L q else none) q
 | [], _, _, _, _, _, h, _, _ => by simp at h
 |r0 :: rs, i, 0, L, q, r, h, hb, hinj => by
  simp at h; subst h
  rw [setRows, setRows_other ps nm rs (i + 1) _ q (fun j hj e => by
   have := hinj (j + 1) (by simp; omega) (by rwa [show i + (j + 1) = i + 1 + j by omega]); omega)]
  simp only [Nat.add_zero] at hb ⊢
  cases e : backV ps nm i with
  | v p => rw [e] at hb; simp only [Nm.top] at hb; subst hb; simp only [setRow, e]; simp
  | h p a b =>
   rw [e] at hb; simp only [Nm.top] at hb; subst hb
   simp only [setRow, e, setH, if_true]
   cases r0 with
   | box => simp
   | own k es' =>
    cases hLp : L p with
    | none => simp [hLp]
    | some r1 => cases r1 <;> simp [hLp]
 |r0 :: rs, i, j + 1, L, q, r, h, hb, hinj => by
  rw [setRows, setRows_at ps nm rs (i + 1) j _ q r (by simpa using h) (by rwa [show i + 1 + j = i + (j + 1) by omega]) (fun j' hj' e => by
   have := hinj (j' + 1) (by simp; omega) (by rwa [show i + (j' + 1) = i + 1 + j' by omega]); omega)]
  rw [show i + 1 + j = i + (j + 1) by omega]
  have : setRow ps nm i r0 L q = L q := setRow_other (fun e => by have := hinj 0 (by simp) (by simpa using e); omega)
  rw [this]

section
variable {P : Program} {w0 : World} {M : Rows0} {N : Nat} {V V0 : View} {bs : Loc} {S : St} {a : Act} {w : World}

theorem backN_v {ps : List Nm} {nm p q : Nat} (h : backV ps nm p = .v q) : backN ps nm (.v p) = some (.v q) := by simp [backN, h]
theorem backC_ok {V V' : View} {bs bs' : Loc} {ps : List Nm} {nm : Nat} (hle : V.le V') (hb : ∀ p q x, bs p = some x → backN ps nm p = some q → bs' q = some x) {c : CV} {v : Value}
  (h : CR V bs c v) : CR V' bs' (backC ps nm c) v := by
 cases h with
 | dead => exact .dead _
 | nil => exact .nil
 | dv h => exact .dv (h.mono hle)
 | os h hl hc =>
  simp only [backC]
  split
  ·rename_i q e; exact .os (hb _ _ _ h e) hl hc
  ·exact .dead _
 | oszero => simp only [backC]; split; exact .oszero; exact .dead _
 | ptr h =>
  simp only [backC]
  split
  ·rename_i q e; exact .ptr (hb _ _ _ h (backN_v e))
  ·exact .dead _
 | ep h =>
  simp only [backC]
  split
  ·rename_i q e; exact .ep (hb _ _ _ h e)
  ·exact .dead _
 | sb h =>
  simp only [backC]
  split
  ·rename_i q e; exact .sb (hb _ _ _ h (backN_v e))
  ·exact .dead _
 | dp h1 h2 => exact .dp (fun j hj => hle _ _ (h1 j hj)) (fun j hj => (h2 j hj).mono hle)

theorem Sat1.back (hs : Sat1 w0 M N V bs S a w) {ps : List Nm} {hk : List Nat} {nm : Nat} (hps : PsOk S ps hk) (hnm : 1000 ≤ nm) (hpL : ∀ p ∈ ps, S.L p.top ≠ none)
  {M1 : Rows0} (hM1 : M1.n = ps.length) (hM1f : ∀ q, M1.f q = (upN ps q).bind bs)
  {V' : View} {bs' : Loc} {Lo : List Row} {mv : List Nat} {w' : World} (hV' : V.le V') (hkp : Keep M1 w w') (hL : SatL w M1 V' bs' (Lof Lo) w' mv) (hlen : ps.length ≤ Lo.length) (hlo : Lo.length ≤ 100000) (hhid : hidOk S ps mv Lo)
  (hfree : ∀ j, j < Lo.length - ps.length → S.L (nm + j) = none) (hle : ∀ x u, V' x = some u → V x = some u ∨ w.heap.size ≤ x.block) :
  ∃ V2 bs2, V.le V2 ∧ (∀ x u, V2 x = some u → V x = some u ∨ w0.heap.size ≤ x.block) ∧ V'.le V2 ∧ (∀ p q x, bs' p = some x → backN ps nm p = some q → bs2 q = some x) ∧
   Sat1 w0 M N V2 bs2 (S.after ps nm hk mv Lo) a w' := by
 let X := Lo.length - ps.length
 let dn : Nm → Option Nm := fun q => match mapN ps q with
  | some c => some c
  |none => (match q with
   | .v r => if nm ≤ r ∧ r < nm + X then some (.v (ps.length + (r - nm))) else none
   | .h r a b => if nm ≤ r ∧ r < nm + X then some (.h (ps.length + (r - nm)) a b) else none)
 let V2 : View := fun x => match V x with | some v => some v | none => if w.heap.size ≤ x.block then V' x else none
 let bs2 : Loc := fun q => match dn q with | some c => bs' c | none => bs q
 have hV2 : V.le V2 := fun x v hx => by simp only [V2, hx]
 have hV2' : ∀ x u, V2 x = some u → V x = some u ∨ (w.heap.size ≤ x.block ∧ V' x = some u) := fun x u hx => by
  simp only [V2] at hx
  split at hx
  ·rename_i v hv; simp at hx; subst hx; exact .inl hv
  ·split at hx
   ·rename_i h; exact .inr ⟨h, hx⟩
   ·simp at hx
 have hV2s : ∀ x u, V2 x = some u → V' x = some u := fun x u hx => (hV2' x u hx).elim (hV' _ _) (·.2)
 have hle' : V'.le V2 := fun x u hx => by
  rcases hle x u hx with h1 | h1
  ·exact hV2 _ _ h1
  ·cases hVx : V x with
   | some v =>
    have := World.block_lt_of_cell? _ _ (hs.view _ _ hVx); omega
   | none => simp only [V2, hVx, h1, if_true, hx]
 -- names
 have hb1 : ∀ (i : Nat) p, ps[i]? = some p → backV ps nm i = p := fun i p h => by simp [backV, h]
 have hb2 : ∀ i, ps.length ≤ i → backV ps nm i = .v (nm + (i - ps.length)) := fun i h => by simp [backV, List.getElem?_eq_none h]
 have hnew : ∀ r, nm ≤ r ∧ r < nm + X → ∀ q ∈ ps, q.top ≠ r := fun r hr q hq e => by
  have := hfree (r - nm) (by show r - nm < X; omega)
  rw [show nm + (r - nm) = r by omega, ← e] at this
  exact hpL q hq this
 have hup : ∀ c q, upN ps c = some q → dn q = some c := fun c q h => by
  have hm : mapN ps q = some c := by
   cases c with
   | v i => simp only [mapN, idxOf_at hps.nd h]
   | h i a b =>
    simp only [upN] at h
    split at h
    ·rename_i p hp
     simp at h; subst h
     have h1 : idxOf (.h p a b) ps = none := by
      cases h2 : idxOf (.h p a b) ps with
      | none => rfl
      | some j => exact absurd (List.mem_of_getElem? hp) (hps.hov p a b (List.mem_of_getElem? (idxOf_get h2)))
     simp only [mapN, h1, idxOf_at hps.nd hp]
    ·simp at h
  simp only [dn, hm]
 have hmapnew : ∀ r, nm ≤ r ∧ r < nm + X → mapN ps (.v r) = none ∧ ∀ a b, mapN ps (.h r a b) = none := fun r hr => by
  have h1 : idxOf (.v r) ps = none := by
   cases h : idxOf (.v r) ps with
   | none => rfl
   | some i => exact absurd rfl (hnew r hr _ (List.mem_of_getElem? (idxOf_get h)))
  refine ⟨by simp only [mapN, h1], fun a b => ?_⟩
  have h2 : idxOf (.h r a b) ps = none := by
   cases h : idxOf (.h r a b) ps with
   | none => rfl
   | some i => exact absurd rfl (hnew r hr _ (List.mem_of_getElem? (idxOf_get h)))
  simp only [mapN, h2, h1]
 have hbackdn : ∀ c q, c.top < Lo.length → backN ps nm c = some q → dn q = some c := fun c q hc h => by
  cases c with
  | v i =>
   simp only [backN, Option.some.injEq] at h
   by_cases hi : i < ps.length
   ·have g := List.getElem?_eq_getElem hi
    rw [hb1 _ _ g] at h; subst h
    exact hup (.v i) _ g
   ·rw [hb2 i (by omega)] at h; subst h
    have hr : nm ≤ nm + (i - ps.length) ∧ nm + (i - ps.length) < nm + X := by simp only [Nm.top] at hc; exact ⟨by omega, by show _ < nm + (Lo.length - ps.length); omega⟩
    simp only [dn, (hmapnew _ hr).1]
    rw [if_pos hr]; simp; omega
  | h i a b =>
   simp only [backN] at h
   by_cases hi : i < ps.length
   ·have g := List.getElem?_eq_getElem hi
    rw [hb1 _ _ g] at h
    split at h
    ·rename_i p hp
     simp at h; subst h
     exact hup (.h i a b) _ (by simp only [upN, g, hp])
    ·simp at h
   ·rw [hb2 i (by omega)] at h; simp at h; subst h
    have hr : nm ≤ nm + (i - ps.length) ∧ nm + (i - ps.length) < nm + X := by simp only [Nm.top] at hc; exact ⟨by omega, by show _ < nm + (Lo.length - ps.length); omega⟩
    simp only [dn, (hmapnew _ hr).2 a b]
    rw [if_pos hr]; simp; omega
 have hdnback : ∀ q c, dn q = some c → backN ps nm c = some q ∧ c.top < Lo.length ∧ ((c.top < ps.length ∧ upN ps c = some q) ∨ (ps.length ≤ c.top ∧ ∃ r, q.top = r ∧ nm ≤ r ∧ r < nm + X)) := fun q c h => by
  simp only [dn] at h
  cases hm : mapN ps q with
  | some c' =>
   rw [hm] at h
   simp at h; subst h
   have hu := mapN_up hm
   cases c' with
   | v i =>
    have hi := (List.getElem?_eq_some_iff.1 hu).1
    exact ⟨by simp only [backN, hb1 _ _ hu], by simp only [Nm.top]; omega, .inl ⟨hi, hu⟩⟩
   | h i a b =>
    have hu' := hu
    simp only [upN] at hu
    split at hu
    ·rename_i p hp
     have hi := (List.getElem?_eq_some_iff.1 hp).1
     exact ⟨by simp only [backN, hb1 _ _ hp]; exact hu, by simp only [Nm.top]; omega, .inl ⟨hi, hu'⟩⟩
    ·simp at hu
  | none =>
   rw [hm] at h
   cases q with
   | v r =>
    simp only at h
    split at h
    ·rename_i hr
     simp at h; subst h
     exact ⟨by simp only [backN]; rw [hb2 _ (by omega)]; simp; omega, by simp only [Nm.top]; simp only [X] at hr; omega, .inr ⟨by simp only [Nm.top]; omega, r, rfl, hr⟩⟩
    ·simp at h
   | h r a b =>
    simp only at h
    split at h
    ·rename_i hr
     simp at h; subst h
     exact ⟨by simp only [backN]; rw [hb2 _ (by omega)]; simp; omega, by simp only [Nm.top]; simp only [X] at hr; omega, .inr ⟨by simp only [Nm.top]; omega, r, rfl, hr⟩⟩
    ·simp at h
 have hdom : ∀ c x, bs' c = some x → c.top < Lo.length := fun c x hx => by
  rcases Nat.lt_or_ge c.top Lo.length with h | h
  ·exact h
  ·have := hL.dom c.top (by simp [Lof, List.getElem?_eq_none h])
   cases c with
   | v i => rw [show bs' (.v i) = none from this.1] at hx; simp at hx
   | h i a b => rw [show bs' (.h i a b) = none from this.2 a b] at hx; simp at hx
 have hbb : ∀ p q x, bs' p = some x → backN ps nm p = some q → bs2 q = some x := fun p q x hx hq => by
  simp only [bs2, hbackdn p q (hdom p x hx) hq]; exact hx
 have hroot : ∀ c : Nm, c.top < Lo.length → c.root = c.top := fun c hc => by
  have : c.top < TKN := by simp only [TKN]; omega
  simp [Nm.root, rt, this]
 -- a block of the called function's
 have hblk : ∀ c b n, bs' c = some (b, n) → w.heap.size ≤ b ∨ ∃ q m nm0, upN ps q = some nm0 ∧ bs nm0 = some (b, m) ∧ q.top = c.top := fun c b n hc => by
  rcases (hL.fresh _ _ _ hc).1 with h | ⟨q, m, h1, h2⟩
  ·exact .inl h
  ·rw [hM1f] at h1
   cases hu : upN ps q with
   | none => rw [hu] at h1; simp at h1
   | some nm0 =>
    rw [hu] at h1
    refine .inr ⟨q, m, nm0, hu, h1, ?_⟩
    have e1 := hroot c (hdom c _ hc)
    have hqt : q.top < Lo.length := (hdnback nm0 q (hup q nm0 hu)).2.1
    rw [hroot q hqt, e1] at h2; exact h2
 have hkeep : ∀ nm0 b n, bs nm0 = some (b, n) → dn nm0 = none → w'.heap[b]? = w.heap[b]? := fun nm0 b n hb hd => by
  refine hkp.block b (hs.fresh _ _ _ hb).2 ?_
  rintro ⟨q, m, hq⟩
  rw [hM1f] at hq
  cases hu : upN ps q with
  | none => rw [hu] at hq; simp at hq
  | some nm1 =>
   rw [hu] at hq
   have := hs.inj _ _ _ _ _ hb hq; subst this
   rw [hup q _ hu] at hd; simp at hd
 have htopup : ∀ q nm0, upN ps q = some nm0 → ∀ c nm1, upN ps c = some nm1 → q.top = c.top → nm0.top = nm1.top := fun q nm0 h1 c nm1 h2 e => by
  have key : ∀ q nm0, upN ps q = some nm0 → ∃ x, ps[q.top]? = some x ∧ x.top = nm0.top := fun q nm0 h => by
   cases q with
   | v i => exact ⟨nm0, h, rfl⟩
   | h i a b =>
    simp only [upN] at h
    split at h
    ·rename_i p hp; simp at h; subst h; exact ⟨_, hp, rfl⟩
    ·simp at h
  obtain ⟨x, g1, g2⟩ := key _ _ h1
  obtain ⟨y, g3, g4⟩ := key _ _ h2
  rw [e] at g1; rw [g1] at g3; injection g3 with g3; subst g3
  rw [← g2, ← g4]
 have hf : ∀ c v, CR V bs c v → CR V2 bs2 (killHAll hk (killAll (movN ps mv) c)) v := fun c v hc => by
  refine (killHAll_ok (bs := fun q => if q.top ∈ movN ps mv then none else bs q) (fun q hq x hx => ?_) (killAll_ok (ks := movN ps mv) (fun q hq x hx => ?_) hc)).mono hV2 fun _ _ h => h
  ·split at hx
   ·simp at hx
   ·rename_i hmq
    simp only [bs2]
    cases hd : dn q with
    | none => exact hx
    | some c =>
     simp only
     obtain ⟨g1, g2, g3⟩ := hdnback q c hd
     rcases g3 with ⟨g3, g4⟩ | ⟨_, r, g4, g5, g6⟩
     ·cases c with
      | v i =>
       have hi : ps[i]? = some q := g4
       have hm : i ∉ mv := fun hm => by
        cases q with
        | v p => exact hmq (List.mem_filterMap.2 ⟨i, hm, by rw [hi]; rfl⟩)
        | h p a b => exact (hhid i p a b hi).1 hm
       have h5 := hL.par i _ (List.getElem?_eq_getElem (show i < Lo.length from g2)) (by rw [hM1]; exact g3) hm
       rw [hM1f] at h5
       simp only [upN, hi, Option.bind_some] at h5
       rw [← h5]; exact hx
      | h i a b =>
       simp only [upN] at g4
       split at g4
       ·rename_i p hp
        simp at g4; subst g4
        rcases hps.hk p (List.mem_of_getElem? hp) with h6 | ⟨cs, h6⟩
        ·exact absurd h6 (hq p a b rfl)
        ·rcases hs.rows p _ h6 with ⟨_, _, _, _, _, h7, _⟩ | ⟨_, k, h7⟩
         ·rw [h7 a b] at hx; simp at hx
         ·simp at h7
       ·simp at g4
     ·have := hs.dom q.top (by rw [g4]; have := hfree (r - nm) (by show r - nm < X; omega); rwa [show nm + (r - nm) = r by omega] at this)
      cases q with
      | v r' => rw [show bs (.v r') = none from this.1] at hx; simp at hx
      | h r' a b => rw [show bs (.h r' a b) = none from this.2 a b] at hx; simp at hx
  ·rw [if_neg hq]; exact hx
 have hbC : ∀ c v, CR V' bs' c v → CR V2 bs2 (backC ps nm c) v := fun c v hc => backC_ok hle' hbb hc
 -- rows, by their names
 have hLn : ∀ q, dn (.v q) = none → (∀ a b, (Nm.h q a b) ∉ ps) → (S.after ps nm hk mv Lo).L q = (S.L q).map (mapR fun c => killHAll hk (killAll (movN ps mv) c)) := fun q h1 h2 =>
  setRows_other ps nm Lo 0 _ q (fun j hj e => by
   rw [Nat.zero_add] at e
   by_cases h3 : j < ps.length
   ·have g := List.getElem?_eq_getElem h3
    rw [hb1 _ _ g] at e
    cases hpj : ps[j] with
    | v r => rw [hpj] at e g; simp only [Nm.top] at e; subst e; rw [hup (.v j) (.v r) g] at h1; simp at h1
    | h r a b => rw [hpj] at e g; simp only [Nm.top] at e; subst e; exact h2 a b (List.mem_of_getElem? g)
   ·rw [hb2 j (by omega)] at e; simp only [Nm.top] at e; subst e
    have hr : nm ≤ nm + (j - ps.length) ∧ nm + (j - ps.length) < nm + X := ⟨by omega, by show _ < nm + (Lo.length - ps.length); omega⟩
    simp only [dn, (hmapnew _ hr).1, if_pos hr] at h1; simp at h1)
 have hinjV : ∀ j j', j < Lo.length → j' < Lo.length → (∀ p a b, backV ps nm j ≠ .h p a b) → (backV ps nm j').top = (backV ps nm j).top → j' = j := fun j j' h1 h2 h3 e => by
  cases hj : backV ps nm j with
  | h p a b => exact absurd hj (h3 p a b)
  | v p =>
   rw [hj] at e
   cases hj' : backV ps nm j' with
   | v p' =>
    rw [hj'] at e; simp only [Nm.top] at e; subst e
    have g1 := hbackdn (.v j) _ h1 (backN_v hj)
    have g2 := hbackdn (.v j') _ h2 (backN_v hj')
    rw [g1] at g2; simp at g2; exact g2.symm
   | h p' a b =>
    rw [hj'] at e; simp only [Nm.top] at e; subst e
    exfalso
    have hj'l : j' < ps.length := by
     rcases Nat.lt_or_ge j' ps.length with h | h
     ·exact h
     ·rw [hb2 _ h] at hj'; simp at hj'
    have g := List.getElem?_eq_getElem hj'l
    rw [hb1 _ _ g] at hj'
    have hmem : (Nm.h p' a b) ∈ ps := hj' ▸ List.getElem_mem hj'l
    rcases Nat.lt_or_ge j ps.length with h | h
    ·have g2 := List.getElem?_eq_getElem h
     rw [hb1 _ _ g2] at hj
     exact hps.hov _ _ _ hmem (hj ▸ List.getElem_mem h)
    ·rw [hb2 _ h] at hj; simp at hj; subst hj
     exact hnew (nm + (j - ps.length)) ⟨by omega, by show _ < nm + (Lo.length - ps.length); omega⟩ _ hmem rfl
 have hLv : ∀ i q, i < Lo.length → backV ps nm i = .v q → (S.after ps nm hk mv Lo).L q = (Lo[i]?).map (mapR (backC ps nm)) := fun i q hi hq => by
  have hr := List.getElem?_eq_getElem hi
  have := setRows_at ps nm Lo 0 i (fun q => (S.L q).map (mapR fun c => killHAll hk (killAll (movN ps mv) c))) q Lo[i] hr (by rw [Nat.zero_add, hq]; rfl) (fun j' hj' e => hinjV i j' hi hj' (fun p a b h => by rw [hq] at h; simp at h) (by rw [hq]; rw [Nat.zero_add] at e; exact e))
  have h2 : (S.after ps nm hk mv Lo).L q = setRow ps nm (0 + i) Lo[i] (fun q' => if q' = q then (S.L q).map (mapR fun c => killHAll hk (killAll (movN ps mv) c)) else none) q := this
  rw [h2, Nat.zero_add, hr]
  simp [setRow, hq]
 have hLh : ∀ (i p a b : Nat), ps[i]? = some (Nm.h p a b) → ∀ (k : Nat) (es' : List (List DV)) (k0 : Nat) (es0 : List (List DV)), Lo[i]? = some (Row.own k es') → S.L p = some (Row.own k0 es0) → (S.after ps nm hk mv Lo).L p = some (.own k0 (es0.set a ((es0.getD a []).set b (reW ((es0.getD a []).getD b .no) es')))) := fun i p a b hi k es' k0 es0 hr hSp => by
  have hil := (List.getElem?_eq_some_iff.1 hr).1
  have hbv : backV ps nm i = .h p a b := hb1 _ _ hi
  have := setRows_at ps nm Lo 0 i (fun q => (S.L q).map (mapR fun c => killHAll hk (killAll (movN ps mv) c))) p _ hr (by rw [Nat.zero_add, hbv]; rfl) (fun j' hj' e => by
   rw [Nat.zero_add] at e
   cases hj : backV ps nm j' with
   | v q =>
    rw [hj] at e; simp only [Nm.top] at e; subst e
    exact (hinjV j' i hj' hil (fun p a b h => by rw [hj] at h; simp at h) (by rw [hj, hbv]; rfl)).symm
   | h q c d =>
    have hj'l : j' < ps.length := by
     rcases Nat.lt_or_ge j' ps.length with h | h
     ·exact h
     ·rw [hb2 _ h] at hj; simp at hj
    have g := List.getElem?_eq_getElem hj'l
    rw [hb1 _ _ g] at hj
    rw [hj] at g
    exact hps.one _ _ _ _ _ _ _ _ g hi)
  have h2 : (S.after ps nm hk mv Lo).L p = setRow ps nm (0 + i) (.own k es') (fun q' => if q' = p then (S.L p).map (mapR fun c => killHAll hk (killAll (movN ps mv) c)) else none) p := this
  rw [h2, Nat.zero_add]
  simp only [setRow, hbv, setH, if_true, hSp, Option.map_some, mapR, upd_same]
 have hdv : ∀ q, (∃ i, i < Lo.length ∧ backV ps nm i = .v q ∧ dn (.v q) = some (.v i)) ∨ (dn (.v q) = none ∧ ∀ a b, (Nm.h q a b) ∉ ps → dn (.h q a b) = none) := fun q => by
  cases hd : dn (.v q) with
  | some c =>
   obtain ⟨g1, g2, _⟩ := hdnback _ _ hd
   cases c with
   | v i => exact .inl ⟨i, g2, by simpa [backN] using g1, rfl⟩
   | h i a b => simp only [backN] at g1; split at g1 <;> simp at g1
  | none =>
   refine .inr ⟨rfl, fun a b hn => ?_⟩
   cases hd2 : dn (.h q a b) with
   | none => rfl
   | some c =>
    exfalso
    simp only [dn] at hd hd2
    have h1 : idxOf (.h q a b) ps = none := by
     cases h : idxOf (.h q a b) ps with
     | none => rfl
     | some j => exact absurd (List.mem_of_getElem? (idxOf_get h)) hn
    cases h2 : idxOf (.v q) ps with
    | some j => simp only [mapN, h2] at hd; simp at hd
    | none =>
     simp only [mapN, h1, h2] at hd hd2
     split at hd
     ·simp at hd
     ·rename_i h3; rw [if_neg h3] at hd2; simp at hd2
 have hdh : ∀ i q a b, backV ps nm i = .v q → i < Lo.length → dn (.h q a b) = some (.h i a b) := fun i q a b h hi => hbackdn (.h i a b) _ hi (by simp only [backN, h])
 refine ⟨V2, bs2, hV2, fun x u hx => (hV2' x u hx).imp id (fun h => Nat.le_trans hs.keep.size h.1), hle', hbb,
  ⟨⟨hkp.os.trans hs.keep.os, hkp.tape.trans hs.keep.tape, hkp.output.trans hs.keep.output, Nat.le_trans hs.keep.size hkp.size, fun k hk1 hk2 => ?_⟩, fun x v hx => hL.view _ _ (hV2s _ _ hx), fun x v q b n hx hq => ?_, fun q q' b n n' h1 h2 => ?_, fun q b n hq => ?_, fun q r hq hlt hmv => ?_, hs.ml, fun q hq => ?_, fun q r hq => ?_,
   fun t => (hs.tmps t).map hf (fun d => by rw [killAll_dv, killHAll_dv]), hs.defers, hs.nt⟩⟩
 ·rw [hkp.block k (Nat.lt_of_lt_of_le hk1 hs.keep.size) (fun hm => ?_)]
  ·exact hs.keep.block k hk1 hk2
  ·obtain ⟨q, m, hq⟩ := hm
   rw [hM1f] at hq
   cases hu : upN ps q with
   | none => rw [hu] at hq; simp at hq
   | some nm0 =>
    rw [hu] at hq
    rcases (hs.fresh _ _ _ hq).1 with h | ⟨q2, m2, h, _⟩
    ·omega
    ·exact hk2 (has_of h)
 ·simp only [bs2] at hq
  split at hq
  ·exact hL.apart _ _ _ _ _ (hV2s _ _ hx) hq
  ·rcases hV2' x v hx with h1 | ⟨h1, _⟩
   ·exact hs.apart _ _ _ _ _ h1 hq
   ·have := (hs.fresh _ _ _ hq).2; omega
 ·have mixed : ∀ q q' b n n' c, dn q = some c → bs' c = some (b, n) → dn q' = none → bs q' = some (b, n') → False := fun q q' b n n' c e1 e2 e3 e4 => by
   rcases hblk _ _ _ e2 with h | ⟨x, m, nm0, h5, h6, _⟩
   ·have := (hs.fresh _ _ _ e4).2; omega
   ·have := hs.inj _ _ _ _ _ h6 e4; subst this
    rw [hup _ _ h5] at e3; simp at e3
  simp only [bs2] at h1 h2
  split at h1 <;> split at h2
  ·rename_i c e1 _ c' e2
   have := hL.inj _ _ _ _ _ h1 h2; subst this
   have g1 := (hdnback _ _ e1).1
   have g2 := (hdnback _ _ e2).1
   rw [g1] at g2; simpa using g2
  ·rename_i c e1 _ e2; exact (mixed _ _ _ _ _ _ e1 h1 e2 h2).elim
  ·rename_i e1 _ c e2; exact (mixed _ _ _ _ _ _ e2 h2 e1 h1).elim
  ·exact hs.inj _ _ _ _ _ h1 h2
 ·simp only [bs2] at hq
  split at hq
  ·rename_i c e1
   refine ⟨?_, (hL.fresh _ _ _ hq).2⟩
   rcases hblk _ _ _ hq with h | ⟨x, m, nm0, h5, h6, h7⟩
   ·exact .inl (Nat.le_trans hs.keep.size h)
   ·rcases (hs.fresh _ _ _ h6).1 with h | ⟨q2, m2, h8, h9⟩
    ·exact .inl h
    ·refine .inr ⟨q2, m2, h8, ?_⟩
     rw [h9]
     obtain ⟨_, _, g3⟩ := hdnback _ _ e1
     have hxt : x.top < ps.length := by
      cases x with
      | v i => exact (List.getElem?_eq_some_iff.1 h5).1
      | h i a b =>
       simp only [upN] at h5
       split at h5
       ·rename_i p hp; exact (List.getElem?_eq_some_iff.1 hp).1
       ·simp at h5
     rcases g3 with ⟨_, g4⟩ | ⟨g4, _⟩
     ·simp only [Nm.root]; rw [htopup _ _ h5 _ _ g4 h7]
     ·omega
  ·exact ⟨(hs.fresh _ _ _ hq).1, Nat.lt_of_lt_of_le (hs.fresh _ _ _ hq).2 hkp.size⟩
 ·have hmv1 : q ∉ movN ps mv := fun h => hmv (List.mem_append_left _ h)
  have hmv2 : q ∉ S.mv := fun h => hmv (List.mem_append_right _ h)
  have hml := hs.ml.1
  have hSq : ∃ r0, S.L q = some r0 := by
   cases h : S.L q with
   | some r0 => exact ⟨r0, rfl⟩
   | none =>
    exfalso
    rcases hdv q with ⟨i, g1, g2, g3⟩ | ⟨g1, g2⟩
    ·rcases Nat.lt_or_ge i ps.length with h3 | h3
     ·have g := List.getElem?_eq_getElem h3
      rw [hb1 _ _ g] at g2
      exact hpL (.v q) (g2 ▸ List.getElem_mem h3) h
     ·rw [hb2 _ h3] at g2; simp at g2; omega
    ·by_cases h4 : ∃ a b, (Nm.h q a b) ∈ ps
     ·obtain ⟨a, b, h4⟩ := h4; exact hpL (.h q a b) h4 h
     ·rw [hLn q g1 (fun a b h5 => h4 ⟨a, b, h5⟩), h] at hq; simp at hq
  obtain ⟨r0, hr0⟩ := hSq
  rw [hs.par q r0 hr0 hlt hmv2]
  simp only [bs2]
  cases hd : dn (.v q) with
  | none => rfl
  | some c =>
   obtain ⟨g1, g2, g3⟩ := hdnback _ _ hd
   rcases g3 with ⟨g3, g4⟩ | ⟨_, r, g4, g5, _⟩
   ·cases c with
    | v i =>
     have hi : ps[i]? = some (.v q) := g4
     have hm : i ∉ mv := fun hm => hmv1 (List.mem_filterMap.2 ⟨i, hm, by rw [hi]⟩)
     have h5 := hL.par i _ (List.getElem?_eq_getElem (show i < Lo.length from g2)) (by rw [hM1]; exact g3) hm
     rw [hM1f] at h5
     simp only [upN, hi, Option.bind_some] at h5
     exact h5
    | h i a b => simp only [upN] at g4; split at g4 <;> simp at g4
   ·simp only [Nm.top] at g4; omega
 ·rcases hdv q with ⟨i, g1, g2, g3⟩ | ⟨g1, g2⟩
  ·rw [hLv i q g1 g2, List.getElem?_eq_getElem g1] at hq; simp at hq
  ·have hn : ∀ a b, (Nm.h q a b) ∉ ps := fun a b hm => by
    obtain ⟨i, hi, e⟩ := List.mem_iff_getElem.1 hm
    obtain ⟨_, k, es', k0, es0, e0, off, len, es, h3, h4, _⟩ := hhid i q a b (by rw [List.getElem?_eq_getElem hi, e])
    rw [hLh i q a b (by rw [List.getElem?_eq_getElem hi, e]) k es' k0 es0 h3 h4] at hq; simp at hq
   rw [hLn q g1 hn, Option.map_eq_none_iff] at hq
   have := hs.dom q hq
   refine ⟨by simp only [bs2, g1]; exact this.1, fun a b => by simp only [bs2, g2 a b (hn a b)]; exact this.2 a b⟩
 ·rcases hdv q with ⟨i, g1, g2, g3⟩ | ⟨g1, g2⟩
  ·rw [hLv i q g1 g2, List.getElem?_eq_getElem g1] at hq
   simp at hq; subst hq
   have hbq : bs2 (.v q) = bs' (.v i) := by simp only [bs2, g3]
   have hbh : ∀ a b, bs2 (.h q a b) = bs' (.h i a b) := fun a b => by simp only [bs2, hdh i q a b g2 g1]
   rw [hbq]
   rcases hL.rows i _ (List.getElem?_eq_getElem g1) with ⟨b, n, e1, e2⟩ | ⟨e1, k, e2⟩
   ·refine .inl ⟨b, n, e1, ?_⟩
    generalize Lo[i] = r0 at e2
    cases r0 with
    | box cs =>
     obtain ⟨g1, g2, g0, vs, g3, g4⟩ := e2
     exact ⟨by simpa using g1, g2, fun a b => (hbh a b).trans (g0 a b), vs, g3.map hbC, g4⟩
    | own k es =>
     obtain ⟨g1, g2, g3, g4⟩ := e2
     refine ⟨g1, g2, g3, fun i j hi hj => ?_⟩
     obtain ⟨v, g5, g6⟩ := g4 i j hi hj
     exact ⟨v, g5, g6.mono hle' (hbh i j) (fun _ _ _ => rfl)⟩
   ·refine .inr ⟨e1, k, ?_⟩
    have e3 : Lo[i] = .own k [] := e2
    rw [e3]; rfl
  ·have hbq : bs2 (.v q) = bs (.v q) := by simp only [bs2, g1]
   rw [hbq]
   by_cases hh : ∃ c d, (Nm.h q c d) ∈ ps
   ·obtain ⟨c, d, hm⟩ := hh
    obtain ⟨i, hi, e⟩ := List.mem_iff_getElem.1 hm
    have hpi : ps[i]? = some (.h q c d) := by rw [List.getElem?_eq_getElem hi, e]
    obtain ⟨him, k, es', k0, es0, e0, off, len, es, h3, h4, h5, h6, h7, h8, h9⟩ := hhid i q c d hpi
    rw [hLh i q c d hpi k es' k0 es0 h3 h4] at hq
    simp only [Option.some.injEq] at hq; subst hq
    have hgd1 : es0.getD c [] = e0 := by simp [List.getD, h5]
    have hgd2 : e0.getD d .no = .ow k off len es := by simp [List.getD, h6]
    rw [hgd1, hgd2]
    simp only [reW]
    obtain ⟨hc0, he0⟩ := List.getElem?_eq_some_iff.1 h5
    subst he0
    obtain ⟨hd0, hd0'⟩ := List.getElem?_eq_some_iff.1 h6
    have hil : i < Lo.length := (List.getElem?_eq_some_iff.1 h3).1
    have hpar : bs' (.v i) = bs (.h q c d) := by
     have h5 := hL.par i _ h3 (by rw [hM1]; exact hi) him
     rw [hM1f] at h5
     simp only [upN, hpi, Option.bind_some] at h5
     exact h5.symm
    have hbcd : bs2 (.h q c d) = bs' (.v i) := by simp only [bs2, hup (.v i) _ hpi]
    have hoth : ∀ c' d', (c', d') ≠ (c, d) → bs2 (.h q c' d') = bs (.h q c' d') ∧ dn (.h q c' d') = none := fun c' d' hne => by
     have : dn (.h q c' d') = none := g2 c' d' fun hm2 => by
      obtain ⟨i2, hi2, e2⟩ := List.mem_iff_getElem.1 hm2
      have hp2 : ps[i2]? = some (.h q c' d') := by rw [List.getElem?_eq_getElem hi2, e2]
      have := hps.one _ _ _ _ _ _ _ _ hp2 hpi; subst this
      rw [hpi] at hp2; simp at hp2; exact hne (by rw [hp2.1, hp2.2])
     exact ⟨by simp only [bs2, this], this⟩
    rcases hs.rows q _ h4 with ⟨b, n, hb, q1, q2, q3, q4⟩ | ⟨_, k1, hk⟩
    ·refine .inl ⟨b, n, hb, ?_⟩
     have hbb : w'.heap[b]? = w.heap[b]? := hkeep _ _ _ hb g1
     have hc1 : ∀ m, w'.cell? ⟨b, m, none⟩ = w.cell? ⟨b, m, none⟩ := fun m => World.cell_of_block (x := ⟨b, m, none⟩) hbb
     have hc2 : ∀ m, w'.frozen? ⟨b, m, none⟩ = w.frozen? ⟨b, m, none⟩ := fun m => World.frozen_of_block (x := ⟨b, m, none⟩) hbb
     refine ⟨by simpa using q1, fun m hm => by rw [hc1, hc2]; exact q2 m hm, fun j hj => ?_, fun j m hj hm => ?_⟩
     ·rw [List.getElem_set]; split
      ·rename_i e; subst e; simp; exact q3 _ _
      ·exact q3 _ _
     ·simp only [List.length_set] at hj
      by_cases hjc : j = c
      ·subst hjc
       have hs1 : (es0.set j (es0[j].set d (.ow k off len es')))[j]'(by simpa using hj) = es0[j].set d (.ow k off len es') := by simp
       have hm' : m < es0[j].length := by rw [hs1] at hm; simpa using hm
       obtain ⟨v1, q7, q8⟩ := q4 j m hc0 hm'
       refine ⟨v1, by rw [hc1]; exact q7, ?_⟩
       simp only [hs1, List.getElem_set]
       by_cases hmd : d = m
       ·subst hmd
        rw [if_pos rfl]
        rw [hd0'] at q8
        have hrow := hL.rows i _ h3
        cases q8 with
        | rd h => cases h
        | ow hb3 ho hl hcap hin =>
         have hbi : bs' (.v i) = some _ := hpar.trans hb3
         rcases hrow with ⟨b4, n4, e4, r1, r2, r3, r4⟩ | ⟨e4, _⟩
         ·rw [hbi] at e4; simp only [Option.some.injEq, Prod.mk.injEq] at e4; obtain ⟨rfl, rfl⟩ := e4
          exact .ow (hbcd.trans hbi) h7 hl hcap ⟨r1, r2, r3, fun j2 m2 hj2 hm2 => by
           obtain ⟨v, r5, r6⟩ := r4 j2 m2 hj2 hm2
           exact ⟨v, r5, (r6.plain (h8.self hj2 hm2)).mono hle'⟩⟩
         ·rw [hbi] at e4; simp at e4
        | ownil _ _ h =>
         have hbi : bs' (.v i) = none := hpar.trans h
         rcases hrow with ⟨b4, n4, e4, _⟩ | ⟨_, k4, e4⟩
         ·rw [hbi] at e4; simp at e4
         ·simp at e4; obtain ⟨_, rfl⟩ := e4
          exact .ownil _ _ (hbcd.trans hbi)
       ·rw [if_neg hmd]
        obtain ⟨o1, o2⟩ := hoth j m (by simp; exact fun e => hmd e.symm)
        exact q8.mono hV2 o1 fun b n hb => hkeep _ _ _ hb o2
      ·have hs1 : (es0.set c (es0[c].set d (.ow k off len es')))[j]'(by simpa using hj) = es0[j] := by rw [List.getElem_set, if_neg (Ne.symm hjc)]
       have hm' : m < es0[j].length := by rw [hs1] at hm; exact hm
       obtain ⟨v1, q7, q8⟩ := q4 j m hj hm'
       refine ⟨v1, by rw [hc1]; exact q7, ?_⟩
       simp only [hs1]
       obtain ⟨o1, o2⟩ := hoth j m (by simp [hjc])
       exact q8.mono hV2 o1 fun b n hb => hkeep _ _ _ hb o2
    ·simp at hk; obtain ⟨_, rfl⟩ := hk; simp at hc0
   ·have hn : ∀ a b, (Nm.h q a b) ∉ ps := fun a b hm => hh ⟨a, b, hm⟩
    rw [hLn q g1 hn, Option.map_eq_some_iff] at hq
    obtain ⟨r0, hr0, rfl⟩ := hq
    refine (hs.rows q r0 hr0).imp (fun ⟨b, n, e1, e2⟩ => ⟨b, n, e1, ?_⟩) (fun ⟨e1, k, e2⟩ => ⟨e1, k, by rw [e2]; rfl⟩)
    have hbh : ∀ a b, bs2 (.h q a b) = bs (.h q a b) := fun a b => by simp only [bs2, g2 a b (hn a b)]
    exact (e2.mono (View.le.refl V) (fun _ _ h => h) (fun _ _ => rfl) (hkeep _ _ _ e1 g1) (fun a b' b n h => hkeep _ _ _ h (g2 a b' (hn a b')))).map hV2 hf hbh
end
end Go.Proofs.Ytpdjehnlejjfmaa.D
/- A call, an operation, a region, a piece of code, a function. -/
namespace Go.Proofs.Ytpdjehnlejjfmaa.D
open Go.RowKit

section
variable {P : Program} (tb : Tab P) {w0 : World} {M : Rows0} {N : Nat} {V V0 : View} {bs : Loc} {S : St} {a : Act} {w : World}

open Classical in
theorem callD_ok (hs : Sat1 w0 M N V bs S a w) (h0 : V0.le V) (h1 : ∀ x v, V x = some v → V0 x = some v ∨ w0.heap.size ≤ x.block) {o : Oper} (hd : ∀ t, o.dst = some t → t < N) {c : Call} {fo : Operand}
  (ho : o.op = .call c) (hc : c.callee = .value fo) {nm : Nat} {K : St → Prop} {Q : Exit → Act → World → Prop} (h : callD P nm S o.dst (S.ev fo) (c.args.toList.map S.ev) K) :
  o.wp P a w (fun a' w' => ∃ S', K S' ∧ Sat w0 M N V0 S' a' w') Q := by
 obtain ⟨ps, hk, bor, f, hf, ⟨hps, hnm⟩, h⟩ := h
 have hev : ∀ x, VR V bs (S.ev x) (a.eval x) := ev_ok hs.tmps
 have hfv : a.eval fo = .func (.func f) #[] #[] := by have := hev fo; rw [hf] at this; exact vr_sc this
 let V1 : View := fun x => match V x with
  | some v => some v
  | none => if bor = true ∧ ∃ p b n, (∀ cn, upN ps cn ≠ some p) ∧ bs p = some (b, n) ∧ x.block = b then w.cell? x else none
 have hV1 : V.le V1 := fun x v hx => by simp only [V1, hx]
 have hV1' : ∀ x u, V1 x = some u → V x = some u ∨ (bor = true ∧ (∃ p b n, (∀ cn, upN ps cn ≠ some p) ∧ bs p = some (b, n) ∧ x.block = b) ∧ w.cell? x = some u) := fun x u hx => by
  simp only [V1] at hx
  split at hx
  ·rename_i v hv; simp at hx; subst hx; exact .inl hv
  ·split at hx
   ·rename_i hb; exact .inr ⟨hb.1, hb.2, hx⟩
   ·simp at hx
 have hV1w : ∀ x u, V1 x = some u → w.cell? x = some u := fun x u hx => (hV1' x u hx).elim (hs.view x u) (fun h => h.2.2)
 have hcov : bor = true → ∀ p b n, (∀ cn, upN ps cn ≠ some p) → bs p = some (b, n) → ∀ x u, x.block = b → w.cell? x = some u → V1 x = some u := fun hb p b n hp hbp x u hx hu => by
  cases hVx : V x with
  | some v => rw [hV1 _ _ hVx]; rw [hs.view _ _ hVx] at hu; exact hu
  | none =>
   simp only [V1, hVx]
   rw [if_pos ⟨hb, p, b, n, hp, hbp, hx⟩]; exact hu
 let bs1 : Loc := fun q => (upN ps q).bind bs
 have hbs1 : ∀ q p, upN ps q = some p → bs1 q = bs p := fun q p hi => by simp only [bs1, hi, Option.bind_some]
 have hargs : Args V bs (c.args.toList.map S.ev) (c.args.toList.map a.eval) := ⟨by simp, fun i sv v h2 h3 => by
  simp only [List.getElem?_map, Option.map_eq_some_iff] at h2 h3
  obtain ⟨x, hx, rfl⟩ := h2
  obtain ⟨y, hy, rfl⟩ := h3
  rw [hx] at hy; injection hy with hy; subst hy; exact hev x⟩
 obtain ⟨args', h, hA⟩ := argSs_ok hs hbs1 hV1 hcov hargs h
 obtain ⟨Li, h, hLl, hLi⟩ := rowsD_ok hs hbs1 hV1 hcov (i0 := 0) (fun i => by rw [Nat.zero_add]) h
 obtain ⟨mv, cl, Post, ⟨⟨fn, hfn, hname, hbody⟩, hcall⟩, hcl, hpost⟩ := h
 have hpL : ∀ p ∈ ps, S.L p.top ≠ none := fun p hp => by
  obtain ⟨i, hi, rfl⟩ := List.mem_iff_getElem.1 hp
  exact (hLi i _ _ (List.getElem?_eq_getElem hi) (List.getElem?_eq_getElem (by omega))).1
 have hb1 : ∀ i b n, bs1 i = some (b, n) → ∃ p, upN ps i = some p ∧ bs p = some (b, n) := fun i b n hi => by
  simp only [bs1] at hi
  cases hu : upN ps i with
  | none => rw [hu] at hi; simp at hi
  | some p => rw [hu] at hi; exact ⟨p, rfl, hi⟩
 have hutop : ∀ q p, upN ps q = some p → q.top < ps.length := fun q p h => by
  cases q with
  | v i => exact (List.getElem?_eq_some_iff.1 h).1
  | h i a b =>
   simp only [upN] at h
   split at h
   ·rename_i p hp; exact (List.getElem?_eq_some_iff.1 hp).1
   ·simp at h
 have huinj : ∀ q q' p, upN ps q = some p → upN ps q' = some p → q = q' := fun q q' p h h' => by
  have key : ∀ q p, upN ps q = some p → mapN ps p = some q := fun q p h => by
   cases q with
   | v i => simp only [mapN, idxOf_at hps.nd h]
   | h i a b =>
    simp only [upN] at h
    split at h
    ·rename_i p hp
     simp at h; subst h
     have h1 : idxOf (.h p a b) ps = none := by
      cases h2 : idxOf (.h p a b) ps with
      | none => rfl
      | some j => exact absurd (List.mem_of_getElem? hp) (hps.hov p a b (List.mem_of_getElem? (idxOf_get h2)))
     simp only [mapN, h1, idxOf_at hps.nd hp]
    ·simp at h
  have := key _ _ h
  rw [key _ _ h'] at this; simpa using this.symm
 have hsat : SatL w ⟨ps.length, bs1⟩ V1 bs1 (Lof Li) w := by
  refine ⟨Keep.refl _ _, hV1w, fun x v i b n hx hi => ?_, fun i j b n n' hi hj => ?_, fun i b n hi => ?_, fun i r hi hlt hmv => rfl, ⟨hps.len, fun q x hx => ?_⟩, fun i hi => ?_, fun i r hi => ?_, fun t => by simp; exact .one (.dead _), rfl, rfl⟩
  ·obtain ⟨p, hp, hb⟩ := hb1 _ _ _ hi
   rcases hV1' x v hx with h2 | ⟨_, ⟨q, b', n', hq, hbq, hxb⟩, _⟩
   ·exact hs.apart _ _ _ _ _ h2 hb
   ·rw [hxb]; rintro rfl
    have := hs.inj _ _ _ _ _ hbq hb; subst this
    exact hq _ hp
  ·obtain ⟨p, hp, hb⟩ := hb1 _ _ _ hi
   obtain ⟨q, hq, hb'⟩ := hb1 _ _ _ hj
   have := hs.inj _ _ _ _ _ hb hb'; subst this
   exact huinj _ _ _ hp hq
  ·obtain ⟨p, hp, hb⟩ := hb1 _ _ _ hi
   exact ⟨.inr ⟨i, n, hi, rfl⟩, (hs.fresh _ _ _ hb).2⟩
  ·obtain ⟨b, n⟩ := x
   obtain ⟨p, hp, _⟩ := hb1 _ _ _ hx
   exact hutop _ _ hp
  ·have : ps.length ≤ i := by
    have hi : Li[i]? = none := hi
    rw [List.getElem?_eq_none_iff] at hi; omega
   have hn := List.getElem?_eq_none this
   exact ⟨by simp only [bs1, upN, hn, Option.bind_none], fun a b => by simp only [bs1, upN, hn, Option.bind_none]⟩
  ·have hil := (List.getElem?_eq_some_iff.1 (show Li[i]? = some r from hi)).1
   have hp := List.getElem?_eq_getElem (l := ps) (show i < ps.length by omega)
   have := (hLi i _ r hp hi).2
   rw [Nat.zero_add] at this
   rw [hbs1 (.v i) _ hp]
   exact this
 have hrun : (execOp a.eval o).run P w = .ok (.enter f (c.args.map a.eval)) w := by
  obtain ⟨callee, cargs, ctypes⟩ := c
  simp only at hc; subst hc
  have hn2 : ¬ (fn.name = "runtime.NumGoroutine") := by simpa using hname
  have hb2 : ¬ (fn.body = none) := by intro h5; rw [h5] at hbody; simp at hbody
  simp [execOp, ho, resolve, hfv, Deferred.ofValue, invoke, callFunc, hfn, hn2, hb2]
 have hcalls := hcall w ⟨ps.length, bs1⟩ V1 bs1 (c.args.toList.map a.eval) (by simp [hLl]) hsat hA
 have hargsE : (c.args.toList.map a.eval).toArray = c.args.map a.eval := by apply Array.ext'; simp
 rw [hargsE] at hcalls
 unfold Oper.wp
 rw [hrun]
 refine Calls.mono hcalls ?_
 rintro e w' ⟨v, V', bs', res, Lo, rfl, gp, hlen, g1, g2, g3, g4, g5⟩
 obtain ⟨⟨hfree, hlo, hhid⟩, hK⟩ := hpost res Lo gp
 have hkeep : Keep ⟨ps.length, bs1⟩ w w' := g3.keep
 have fin : ∀ Vn : View, V.le Vn → (∀ x u, Vn x = some u → V x = some u ∨ w.heap.size ≤ x.block) → SatL w ⟨ps.length, bs1⟩ Vn bs' (Lof Lo) w' mv → VR Vn bs' res v → ∃ S', K S' ∧ Sat w0 M N V0 S' (a.put o.dst v) w' := fun Vn e1 e2 e3 e4 => by
  obtain ⟨V2, bs2, k1, k2, k3, k4, k5⟩ := hs.back hps hnm hpL (M1 := ⟨ps.length, bs1⟩) rfl (fun _ => rfl) e1 hkeep e3 (by omega) hlo hhid hfree e2
  exact ⟨_, hK, (k5.put hd (e4.map fun c v hc => backC_ok k3 k4 hc)).sat (h0.trans k1) (fun x u hx => (k2 x u hx).elim (h1 x u) .inr)⟩
 cases hb : bor with
 | false =>
  exact fin V' (hV1.trans g1) (fun x u hx => (g2 x u hx).imp (fun h5 => (hV1' x u h5).elim id (fun h6 => by rw [hb] at h6; simp at h6)) id) g3 g4
 | true =>
  obtain ⟨Vc, c1, c2, c3, c4⟩ := g5 (hcl hb)
  let Vn : View := fun x => match V x with | some u => some u | none => Vc x
  have n1 : V.le Vn := fun x u hx => by simp only [Vn, hx]
  have n2 : ∀ x u, Vn x = some u → V x = some u ∨ Vc x = some u := fun x u hx => by
   simp only [Vn] at hx
   split at hx
   ·rename_i y hy; simp at hx; subst hx; exact .inl hy
   ·exact .inr hx
  have n3 : Vc.le Vn := fun x u hx => by
   cases hVx : V x with
   | some y => have := World.block_lt_of_cell? _ _ (hs.view _ _ hVx); have := c2 x u hx; omega
   | none => simp only [Vn, hVx, hx]
  have n4 : ∀ x u, Vn x = some u → V' x = some u := fun x u hx => (n2 x u hx).elim (fun h => g1 _ _ (hV1 _ _ h)) (c1 x u)
  refine fin Vn n1 (fun x u hx => (n2 x u hx).imp id (c2 x u)) ?_ (c4.mono n3 fun _ _ h => h)
  refine ⟨c3.keep, fun x u hx => g3.view x u (n4 x u hx), fun x u p b n hx hp => g3.apart x u p b n (n4 x u hx) hp, c3.inj, c3.fresh, c3.par, c3.ml, c3.dom, fun p r hp => ?_, fun t => by simp; exact .one (.dead _), rfl, rfl⟩
  exact (c3.rows p r hp).imp (fun ⟨b, n, e1, e2⟩ => ⟨b, n, e1, e2.mono n3 (fun _ _ h => h) (fun _ _ => rfl) rfl (fun _ _ _ _ _ => rfl)⟩) id

def opD (P : Program) (tb : TypeId → Option TyI) (nm : Nat) (S : St) (op : Op) (dst : Option Tmp) (K : St → Prop) : Prop :=
 match op with
 | .call c =>
  (match c.callee with
  | .value fo => callD P nm S dst (S.ev fo) (c.args.toList.map S.ev) K
  | _ => memD tb nm S (.call c) dst K)
 | op => memD tb nm S op dst K

theorem opD_ok (hs : Sat w0 M N V0 S a w) {o : Oper} (hd : ∀ t, o.dst = some t → t < N) {nm : Nat} {K : St → Prop} {Q : Exit → Act → World → Prop} (h : opD P tb.tb nm S o.op o.dst K) :
  o.wp P a w (fun a' w' => ∃ S', K S' ∧ Sat w0 M N V0 S' a' w') Q := by
 obtain ⟨V, bs, h0, h1, hs⟩ := hs
 unfold opD at h
 split at h
 ·rename_i c ho
  split at h
  ·rename_i fo hc
   exact callD_ok hs h0 h1 hd ho hc h
  ·exact memD_ok tb hs h0 h1 hd (by rw [ho]; exact h)
 ·exact memD_ok tb hs h0 h1 hd h

def guardD (b : Bool) (X Y : Prop) : Prop := (b = true → X) ∧ (b = false → Y)
theorem skipped {V : View} {bs : Loc} : VR V bs (.tup []) undef := VR.tup (ps := []) (vs := []) rfl fun i b cs u h => by simp at h
theorem vr_skip {V : View} {bs : Loc} {v : Value} (h : VR V bs (.tup []) v) : v = undef := by
 cases h with
 | tup hl _ => rw [List.eq_nil_of_length_eq_zero hl.symm]; rfl
theorem yielded_skip {ops : Array Oper} {tmps : Array Value} {j t : Nat} (ht : (ops[j]?).bind (·.dst) = some t) (h : tmps.getD t undef = undef) : yielded ops tmps j = none := by
 unfold yielded
 rw [ht]
 rw [Array.getD_eq_getD_getElem?] at h
 cases h5 : tmps[t]? with
 | none => simp [h5]
 | some u => rw [h5] at h; simp at h; subst h; simp [h5, undef]
def opsD (P : Program) (tb : TypeId → Option TyI) (base : Nat) (ops : List Oper) : Nat → List Oper → St → (St → Prop) → Prop
 | _, [], S, K => K S
 | i, o :: rest, S, K =>
  match o.guard with
  | none => opD P tb (base + 16 * i) S o.op o.dst fun S' => opsD P tb base ops (i + 1) rest S' K
  | some (j, want) =>
   match (ops[j]?).bind (·.dst) with
   |some t => (match S.T t with
    | .one (.dv (.sc (.bool b))) => guardD (b == want) (opD P tb (base + 16 * i) S o.op o.dst fun S' => opsD P tb base ops (i + 1) rest S' K) (opsD P tb base ops (i + 1) rest (S.put o.dst (.tup [])) K)
    | .tup [] => opsD P tb base ops (i + 1) rest (S.put o.dst (.tup [])) K
    | _ => False)
   | none => False

theorem opsD_ok {ops : Array Oper} (hd : ∀ o ∈ ops, ∀ t, o.dst = some t → t < N) {base : Nat} {Q : Exit → Act → World → Prop} {K : St → Prop} (hQ : ∀ S a w, K S → Sat w0 M N V0 S a w → Q .normal a w) :
  ∀ (rest : List Oper) (i : Nat) (S : St) (a : Act) (w : World), ops.toList.drop i = rest → Sat w0 M N V0 S a w → opsD P tb.tb base ops.toList i rest S K → wpOps P ops Q (List.range' i rest.length) a w
 | [], i, S, a, w, _, hs, h => hQ S a w h hs
 |o :: rest, i, S, a, w, hr, hs, h => by
  have hlt : i < ops.toList.length := by
   rcases Nat.lt_or_ge i ops.toList.length with h | h
   ·exact h
   ·rw [List.drop_eq_nil_of_le h] at hr; simp at hr
  have ho : ops[i]? = some o := by
   have : (ops.toList.drop i)[0]? = some o := by rw [hr]; rfl
   rw [List.getElem?_drop] at this; simpa using this
  have hrest : ops.toList.drop (i + 1) = rest := by
   have : (ops.toList.drop i).drop 1 = rest := by rw [hr]; rfl
   rw [List.drop_drop] at this; exact this
  have hdo : ∀ t, o.dst = some t → t < N := hd o (by
   have := List.mem_of_getElem? (show ops.toList[i]? = some o by simpa using ho); simpa using this)
  have run : ∀ (S : St), opD P tb.tb (base + 16 * i) S o.op o.dst (fun S' => opsD P tb.tb base ops.toList (i + 1) rest S' K) → Sat w0 M N V0 S a w → o.wp P a w (wpOps P ops Q (List.range' (i + 1) rest.length)) Q := fun S h hs =>
   Oper.wp_mono (fun a' w' ⟨S', h1, h2⟩ => opsD_ok hd hQ rest (i + 1) S' a' w' hrest h2 h1) (opD_ok tb hs hdo h)
  simp only [List.length_cons, List.range'_succ, wpOps, ho]
  simp only [opsD] at h
  split at h
  ·rename_i hg
   have : Region.wanted o (yielded ops a.tmps) = true := by simp [Region.wanted, hg]
   rw [if_pos this]
   exact .inl (run S h hs)
  ·rename_i j want hg
   split at h
   ·rename_i t ht
    split at h
    ·rename_i b hb
     have hsv : a.tmps.getD t undef = .bool b := by
      obtain ⟨V, bs, _, _, hs1⟩ := hs
      have := hs1.tmps t; rw [hb] at this; exact vr_sc this
     have hy : yielded ops a.tmps j = some b := by
      unfold yielded
      have ht' : (ops[j]?).bind (·.dst) = some t := by simpa using ht
      rw [ht']
      have : a.tmps[t]? = some (.bool b) := by
       rw [Array.getD_eq_getD_getElem?] at hsv
       cases h5 : a.tmps[t]? with
       | none => rw [h5] at hsv; simp [undef] at hsv
       | some u => rw [h5] at hsv; simp at hsv; rw [hsv]
      simp [this]
     have hw : Region.wanted o (yielded ops a.tmps) = (some b == some want) := by simp [Region.wanted, hg, hy]
     by_cases hbw : b = want
     ·subst hbw
      rw [if_pos (by rw [hw]; simp)]
      exact .inl (run S (h.1 (by simp)) hs)
     ·rw [if_neg (by rw [hw]; simp [hbw])]
      refine opsD_ok hd hQ rest (i + 1) _ _ _ hrest ?_ (h.2 (by simp [hbw]))
      obtain ⟨V, bs, h0, h1, hs1⟩ := hs
      exact ⟨V, bs, h0, h1, hs1.put hdo skipped⟩
    ·rename_i hb
     have hsv : a.tmps.getD t undef = undef := by
      obtain ⟨V, bs, _, _, hs1⟩ := hs
      have := hs1.tmps t; rw [hb] at this; exact vr_skip this
     have hy : yielded ops a.tmps j = none := by
      have ht' : (ops[j]?).bind (·.dst) = some t := by simpa using ht
      exact yielded_skip ht' hsv
     have hw : Region.wanted o (yielded ops a.tmps) = false := by simp [Region.wanted, hg, hy]
     rw [if_neg (by rw [hw]; simp)]
     refine opsD_ok hd hQ rest (i + 1) _ _ _ hrest ?_ h
     obtain ⟨V, bs, h0, h1, hs1⟩ := hs
     exact ⟨V, bs, h0, h1, hs1.put hdo skipped⟩
    ·exact h.elim
   ·exact h.elim
end
end Go.Proofs.Ytpdjehnlejjfmaa.D
/- Regions that draw their order: one slot turned changes nothing for an operation that does not look at it. -/
namespace Go.Proofs.Ytpdjehnlejjfmaa.D
open Go.RowKit
set_option linter.unusedVariables false

structure OffD (d : Tmp) (S S' : St) : Prop where
 t : ∀ t, t ≠ d → S.T t = S'.T t
 l : S.L = S'.L
 m : S.mv = S'.mv
theorem OffD.ev {d : Tmp} {S S' : St} (h : OffD d S S') {x : Operand} (hx : x ≠ .tmp d) : S.ev x = S'.ev x := by
 cases x with
 | tmp t => exact h.1 _ (by rintro rfl; exact hx rfl)
 | _ => rfl
theorem OffD.symm {d : Tmp} {S S' : St} (h : OffD d S S') : OffD d S' S := ⟨fun t ht => (h.1 t ht).symm, h.2.symm, h.3.symm⟩
theorem OffD.put {d : Tmp} {S S' : St} (h : OffD d S S') (t : Option Tmp) (v : SV) : OffD d (S.put t v) (S'.put t v) := by
 cases t with
 | none => exact h
 | some t => exact ⟨fun u hu => by
   simp only [St.put, upd]
   split
   ·rfl
   ·exact h.1 u hu, h.2, h.3⟩
theorem OffD.kill {d : Tmp} {S S' : St} (h : OffD d S S') (p : Nat) : OffD d (S.kill p) (S'.kill p) := ⟨fun t ht => by simp [St.kill, St.mapC, h.1 t ht], by simp [St.kill, St.mapC, h.2], h.3⟩
theorem OffD.killH {d : Tmp} {S S' : St} (h : OffD d S S') (p : Nat) : OffD d (S.killH p) (S'.killH p) := ⟨fun t ht => by simp [St.killH, St.mapC, h.1 t ht], by simp [St.killH, St.mapC, h.2], h.3⟩
theorem OffD.new {d : Tmp} {S S' : St} (h : OffD d S S') (p : Nat) (r : Row) : OffD d (S.new p r) (S'.new p r) := ⟨h.1, by simp [St.new, h.2], h.3⟩
theorem OffD.frz {d : Tmp} {S S' : St} (h : OffD d S S') (p : Nat) : OffD d (S.frz p) (S'.frz p) := ⟨(h.kill p).1, by simp [St.frz, (h.kill p).2], h.3⟩
theorem OffD.mov {d : Tmp} {S S' : St} (h : OffD d S S') (p : Nat) : OffD d (S.mov p) (S'.mov p) := ⟨h.1, h.2, by simp [St.mov, h.3]⟩
theorem OffD.gone {d : Tmp} : ∀ (qs : List (Option Nat)) {S S' : St}, OffD d S S' → OffD d (S.gone qs) (S'.gone qs)
 | [], _, _, h => h
 | none :: qs, _, _, h => OffD.gone qs h
 | some q :: qs, _, _, h => OffD.gone qs (h.frz q)
theorem OffD.takeOut {d : Tmp} {S S' : St} (h : OffD d S S') (p i j : Nat) : OffD d (S.takeOut p i j) (S'.takeOut p i j) := by
 unfold St.takeOut; rw [← h.2]; split
 ·exact (h.killH p).new _ _
 ·exact h
theorem Lx_off {S S' : St} (hL : S.L = S'.L) (nm : Nm) : S.Lx nm = S'.Lx nm := by cases nm <;> simp only [St.Lx, hL]
theorem OffD.after {d : Tmp} {S S' : St} (h : OffD d S S') (ps : List Nm) (nm : Nat) (hk mv : List Nat) (Lo : List Row) : OffD d (S.after ps nm hk mv Lo) (S'.after ps nm hk mv Lo) :=
 ⟨fun t ht => by simp [St.after, h.1 t ht], by simp [St.after, h.2], by simp [St.after, h.3]⟩

section
variable {tb : TypeId → Option TyI} {S S' : St}

theorem ptrCells_off (hL : S.L = S'.L) (c : CV) : ptrCells S c = ptrCells S' c := by cases c <;> simp [ptrCells, hL, Lx_off hL]
theorem mapInt_mono {x : Operand} {K K' : IntKind → Int → Prop} (hk : ∀ k n, K k n → K' k n) (h : mapInt S x K) : mapInt S x K' := by
 unfold mapInt at *; split at h
 ·exact hk _ _ h
 ·exact h.elim
theorem boundD_mono {x : Option Operand} {d y : Nat} {K K' : Nat → Prop} (hk : ∀ n, K n → K' n) (h : boundD S x d y K) : boundD S x d y K' := by
 unfold boundD at *; split
 ·exact hk _ h
 ·exact mapInt_mono (fun k n h => ⟨h.1, hk _ h.2⟩) h
theorem aggD_const {cs : List CV} {p : Prop} (h : aggD cs fun _ => p) : p := h.elim id fun ⟨_, _, h⟩ => h
theorem selD_mono {i : TyI} {cs : List CV} {o : Nat} {K K' : SV → Prop} (hk : ∀ v, K v → K' v) (h : selD i cs o K) : selD i cs o K' := by
 unfold selD at *; split
 ·rename_i e; rw [e] at h; exact ⟨h.1, aggD_mono hk h.2⟩
 ·rename_i e; rw [e] at h; simp only at h; split
  ·rename_i c hc; rw [hc] at h; exact hk _ h
  ·rename_i hc; rw [hc] at h; exact h
theorem binD_mono {op : BinOp} {t : TypeId} {u v : Value} {K K' : Value → Prop} (hk : ∀ v, K v → K' v) (h : binD tb op t u v K) : binD tb op t u v K' := by
  unfold binD at h
  split at h <;> first
    | exact hk _ h
    | exact ⟨h.1, hk _ h.2⟩
    | exact ⟨h.1, h.2.1, hk _ h.2.2⟩
    | (split at h
       · rename_i e; simp only [binD, e]; exact hk _ h
       · exact h.elim)
    | exact h.elim
theorem eqFs_mono {rec : TypeId → SV → SV → (Bool → Prop) → Prop} (hrec : ∀ t u v (K K' : Bool → Prop), (∀ b, K b → K' b) → rec t u v K → rec t u v K') :
  ∀ (fs : List (Nat × TypeId)) (cs ds : List CV) {K K' : Bool → Prop}, (∀ b, K b → K' b) → eqFs tb rec fs cs ds K → eqFs tb rec fs cs ds K'
 | [], _, _, _, _, hk, h => hk _ h
 |(off, ft) :: rest, cs, ds, K, K', hk, h => by
  simp only [eqFs] at h ⊢
  split
  ·rename_i i hi
   rw [hi] at h
   exact selD_mono (fun a h => selD_mono (fun b h => hrec _ _ _ _ _ (fun r h => eqFs_mono hrec rest cs ds (fun r' h => hk _ h) h) h) h) h
  ·rename_i hi; rw [hi] at h; exact h
theorem eqK_mono : ∀ (n : Nat) (t : TypeId) (u v : SV) {K K' : Bool → Prop}, (∀ b, K b → K' b) → eqK tb n t u v K → eqK tb n t u v K'
 | 0, _, _, _, _, _, _, h => h
 |n + 1, t, u, v, K, K', hk, h => by
  unfold eqK at h
  split at h
  ·rename_i e; simp only [eqK, e]; exact ⟨h.1, hk _ h.2⟩
  ·rename_i e; simp only [eqK, e]; exact hk _ h
  ·rename_i e; simp only [eqK, e]; exact hk _ h
  ·rename_i e; simp only [eqK, e]; exact eqFs_mono (fun t u v K K' => eqK_mono n t u v) _ _ _ hk h
  ·exact h.elim
theorem lenD_mono {t : TypeId} {v : SV} {K K' : SV → Prop} (hk : ∀ v, K v → K' v) (h : lenD tb t v K) : lenD tb t v K' := by
 unfold lenD at h
 split at h <;> first
  | (rename_i e; simp only [lenD, e]; exact hk _ h)
  | exact h.elim
theorem callValD_mono {c : Callee} {args : List Operand} {types : List TypeId} {K K' : SV → Prop} (hk : ∀ v, K v → K' v) (h : callValD tb S c args types K) : callValD tb S c args types K' := by
 unfold callValD at h
 split at h
 ·split at h
  ·exact lenD_mono hk h
  ·exact h.elim
 ·split at h
  ·exact mapInt_mono (fun _ _ h => mapInt_mono (fun _ _ h => hk _ h) h) h
  ·exact h.elim
 ·split at h
  ·exact mapInt_mono (fun _ _ h => mapInt_mono (fun _ _ h => hk _ h) h) h
  ·exact h.elim
 ·exact h.elim
theorem callValD_ev {c : Callee} {args : List Operand} {types : List TypeId} {K : SV → Prop} (e : ∀ x ∈ args, S.ev x = S'.ev x) : callValD tb S c args types K = callValD tb S' c args types K := by
 unfold callValD
 split
 ·split
  ·rename_i x t; rw [e x (by simp)]
  ·rfl
 ·split
  ·rename_i x y; simp only [mapInt, e x (by simp), e y (by simp)]
  ·rfl
 ·split
  ·rename_i x y; simp only [mapInt, e x (by simp), e y (by simp)]
  ·rfl
 ·rfl
theorem boundD_ev {x : Option Operand} {d y : Nat} {K : Nat → Prop} (e : ∀ z ∈ x, S.ev z = S'.ev z) : boundD S x d y K = boundD S' x d y K := by
 unfold boundD; split
 ·rfl
 ·rename_i z; simp only [mapInt, e z (by simp)]
theorem valD_ev {op : Op} {K : SV → Prop} (e : ∀ x ∈ op.operands, S.ev x = S'.ev x) (hL : S.L = S'.L) : valD tb S op K = valD tb S' op K := by
 cases op with
 | build t parts =>
  have : (parts.toList.map fun p => (p.1, S.ev p.2)) = parts.toList.map fun p => (p.1, S'.ev p.2) := List.map_congr_left fun p hp => by
   rw [e p.2 (by simp only [Op.operands, List.mem_toArray, List.mem_map]; exact ⟨p, hp, rfl⟩)]
  simp only [valD, this]
 | call c =>
  simp only [valD]
  refine callValD_ev fun x hx => e x ?_
  simp only [Op.operands, Call.operands]
  cases c.callee <;> simp <;> first | exact .inr (by simpa using hx) | (simpa using hx)
 | slice t x lo hi mx =>
  have e1 := e x (by simp [Op.operands])
  have e2 : ∀ z ∈ lo, S.ev z = S'.ev z := fun z hz => e z (by simp [Op.operands]; exact .inr (.inl hz))
  have e3 : ∀ z ∈ hi, S.ev z = S'.ev z := fun z hz => e z (by simp [Op.operands]; exact .inr (.inr (.inl hz)))
  simp only [valD, e1, boundD_ev e2, boundD_ev e3]
 | load t x => simp only [valD, e x (by simp [Op.operands]), ptrCells_off hL]
 | pick c a b => simp only [valD, e c (by simp [Op.operands]), e a (by simp [Op.operands]), e b (by simp [Op.operands])]
 | binOp o t x y t' => simp only [valD, e x (by simp [Op.operands]), e y (by simp [Op.operands])]
 | indexAddr t x y => simp only [valD, mapInt, e x (by simp [Op.operands]), e y (by simp [Op.operands])]
 | index t x y => simp only [valD, mapInt, e x (by simp [Op.operands]), e y (by simp [Op.operands])]
 | move x => simp only [valD, e x (by simp [Op.operands])]
 | assign x => simp only [valD, e x (by simp [Op.operands])]
 | unOp o t x => simp only [valD, e x (by simp [Op.operands])]
 | convert s t x => simp only [valD, e x (by simp [Op.operands])]
 | fieldAddr s x f => simp only [valD, e x (by simp [Op.operands])]
 | field s x f => simp only [valD, e x (by simp [Op.operands])]
 | extract x i => simp only [valD, e x (by simp [Op.operands])]
 | nilCheck x => simp only [valD, e x (by simp [Op.operands])]
 | _ => rfl
theorem valD_mono {op : Op} {K K' : SV → Prop} (hk : ∀ v, K v → K' v) (h : valD tb S op K) : valD tb S op K' := by
 cases op with
 | move x => exact hk _ h
 | assign x => exact hk _ h
 | pick c a b =>
  simp only [valD] at h ⊢
  split at h
  ·rename_i e; exact hk _ h
  ·exact h.elim
 | binOp o t x y t' =>
  simp only [valD] at h ⊢
  split at h
  ·rename_i e1 e2; exact binD_mono (fun _ h => hk _ h) h
  ·rename_i e1 e2
   split at h
   ·exact eqK_mono _ _ _ _ (fun _ h => hk _ h) h
   ·exact eqK_mono _ _ _ _ (fun _ h => hk _ h) h
   ·exact h.elim
  ·exact h.elim
 | unOp o t x =>
  simp only [valD] at h ⊢
  split at h
  ·rename_i e; exact hk _ h
  ·rename_i e; exact hk _ h
  ·rename_i e; exact hk _ h
  ·exact h.elim
 | convert s t x =>
  simp only [valD] at h ⊢
  split at h
  ·rename_i e1 e2 e3; exact hk _ h
  ·rename_i e1 e2 e3; exact hk _ h
  ·exact h.elim
 | fieldAddr s x f =>
  simp only [valD] at h ⊢
  split at h
  ·rename_i e1 e2
   split at h
   ·rename_i e3
    split at h
    ·rename_i e4; exact hk _ h
    ·exact h.elim
   ·exact h.elim
  ·exact h.elim
 | field s x f =>
  simp only [valD] at h ⊢
  split at h
  ·rename_i e1 e2
   split at h
   ·rename_i e3
    split at h
    ·rename_i e4; exact selD_mono hk h
    ·exact h.elim
   ·exact h.elim
  ·exact h.elim
 | indexAddr t x y =>
  simp only [valD] at h ⊢
  refine mapInt_mono (fun k n h => ?_) h
  split at h
  ·rename_i e1 e2
   split at h
   ·rename_i e3; exact ⟨h.1, hk _ h.2⟩
   ·exact h.elim
  ·rename_i e1 e2
   split at h
   ·rename_i e3; exact ⟨h.1, h.2.1, hk _ h.2.2⟩
   ·exact h.elim
  ·rename_i e1 e2
   split at h
   ·rename_i e3
    refine ⟨h.1, ?_⟩
    replace h := h.2
    split at h
    ·rename_i e4; exact hk _ h
    ·exact h.elim
   ·exact h.elim
  ·exact h.elim
 | index t x y =>
  simp only [valD] at h ⊢
  refine mapInt_mono (fun k n h => ?_) h
  split at h
  ·rename_i e1 e2
   split at h
   ·rename_i e3; exact ⟨h.1, selD_mono hk h.2⟩
   ·exact h.elim
  ·rename_i e1 e2
   split at h
   ·rename_i e3; exact ⟨h.1, selD_mono hk h.2⟩
   ·exact h.elim
  ·rename_i e1 e2
   refine ⟨h.1, ?_⟩
   replace h := h.2
   split at h
   ·rename_i e4; exact hk _ h
   ·exact h.elim
  ·exact h.elim
 | slice t x lo hi mx =>
  simp only [valD] at h ⊢
  split at h
  ·rename_i e1 e2; exact ⟨h.1, boundD_mono (fun _ h => boundD_mono (fun _ h => hk _ h) h) h.2⟩
  ·rename_i e1 e2
   split at h
   ·rename_i e3; exact ⟨h.1, h.2.1, boundD_mono (fun _ h => boundD_mono (fun _ h => hk _ h) h) h.2.2⟩
   ·exact h.elim
  ·rename_i e1 e2
   split at h
   ·rename_i e3; exact ⟨h.1, h.2.1, boundD_mono (fun _ h => boundD_mono (fun _ h => hk _ h) h) h.2.2⟩
   ·exact h.elim
  ·rename_i e1 e2
   split at h
   ·exact ⟨h.1, hk _ h.2⟩
   ·exact h.elim
  ·exact h.elim
 | extract x i =>
  simp only [valD] at h ⊢
  split at h
  ·rename_i e1
   split at h
   ·rename_i e2; exact aggD_mono hk h
   ·rename_i e2; exact hk _ h
   ·exact h.elim
  ·exact h.elim
 | nilCheck x =>
  simp only [valD] at h ⊢
  split at h <;> first
   | (rename_i e; exact hk _ h)
   | exact h.elim
 | build t parts =>
  simp only [valD] at h ⊢
  split at h
  ·rename_i e1
   refine ⟨h.1, ?_⟩
   replace h := h.2
   split at h
   ·rename_i e2; exact hk _ h
   ·exact h.elim
  ·rename_i e1
   split at h
   ·rename_i e2
    refine ⟨h.1, ?_⟩
    replace h := h.2
    split at h
    ·rename_i e3; exact hk _ h
    ·exact h.elim
   ·exact h.elim
  ·exact h.elim
 | load t x =>
  simp only [valD] at h ⊢
  split at h
  ·rename_i e1 e2
   split at h
   ·rename_i e3; exact selD_mono hk h
   ·exact h.elim
  ·exact h.elim
 | call c => exact callValD_mono hk h
 | _ => exact h
theorem valD_off {d : Tmp} {op : Op} (h : OffD d S S') (hd : ∀ x ∈ op.operands, x ≠ .tmp d) {K K' : SV → Prop} (hk : ∀ v, K v → K' v) (hv : valD tb S op K) : valD tb S' op K' := by
 rw [← valD_ev (fun x hx => h.ev (hd x hx)) h.2]; exact valD_mono hk hv

abbrev Off1 (d : Tmp) (K : St → Prop) : St → Prop := fun T' => ∃ T, K T ∧ OffD d T T'

theorem deepCells_off {d : Tmp} : ∀ (n : Nat) (cs : List CV) (S S' : St) (K : St → List DV → Prop), cs.length = n → OffD d S S' → deepCells S cs K → deepCells S' cs (fun T' ds => ∃ T, K T ds ∧ OffD d T T')
 | 0, [], S, S', K, _, ho, h => by simp only [deepCells] at h ⊢; exact ⟨S, h, ho⟩
 |n + 1, c :: cs, S, S', K, hn, ho, h => by
  simp at hn
  unfold deepCells at h ⊢
  split at h
  ·exact deepCells_off n cs S S' _ hn ho h
  ·exact deepCells_off n cs S S' _ hn ho h
  ·rw [← ho.2]
   split at h
   ·obtain ⟨xs, h1, h2⟩ := h
    exact ⟨xs, h1, deepCells_off n _ _ _ _ (by simpa using hn) (ho.frz _) h2⟩
   ·exact h.elim
  ·exact h.elim
theorem moveD_mono {pr : Nat} : ∀ {pl : Option (Nat × Nat)} {ws : List Nat} {cs : List CV} {K K' : List DV → List (Option Nat) → Prop}, (∀ ds qs, K ds qs → K' ds qs) → moveD S pr pl ws cs K → moveD S pr pl ws cs K'
 | _, _, [], _, _, hk, h => hk _ _ h
 |pl, ws, c :: cs, K, K', hk, h => by
  unfold moveD at h ⊢
  split at h
  ·exact moveD_mono (fun _ _ h => hk _ _ h) h
  ·exact moveD_mono (fun _ _ h => hk _ _ h) h
  ·split at h
   ·refine ⟨h.1, ?_⟩
    have h := h.2
    split at h
    ·exact ⟨h.1, moveD_mono (fun _ _ h => hk _ _ h) h.2⟩
    ·exact h.elim
   ·exact h.elim
  ·split at h
   ·exact ⟨h.1, moveD_mono (fun _ _ h => hk _ _ h) h.2⟩
   ·exact h.elim
  ·exact h.elim
theorem moveD_L {pr : Nat} (hL : S.L = S'.L) : ∀ {pl : Option (Nat × Nat)} {ws : List Nat} {cs : List CV} {K : List DV → List (Option Nat) → Prop}, moveD S pr pl ws cs K → moveD S' pr pl ws cs K
 | _, _, [], _, h => h
 |pl, ws, c :: cs, K, h => by
  unfold moveD at h ⊢
  split at h
  ·exact moveD_L hL h
  ·exact moveD_L hL h
  ·split at h
   ·refine ⟨h.1, ?_⟩
    have h := h.2
    rw [← Lx_off hL]
    split at h
    ·exact ⟨h.1, moveD_L hL h.2⟩
    ·exact h.elim
   ·exact h.elim
  ·rw [← hL]
   split at h
   ·exact ⟨h.1, moveD_L hL h.2⟩
   ·exact h.elim
  ·exact h.elim
theorem deepCells_mono' : ∀ {n : Nat} {cs : List CV} {S : St} {K K' : St → List DV → Prop}, cs.length = n → deepCells S cs K → (∀ T ds, K T ds → K' T ds) → deepCells S cs K'
 | 0, [], S, K, K', _, h, hk => by simp only [deepCells] at h ⊢; exact hk _ _ h
 |n + 1, c :: cs, S, K, K', hn, h, hk => by
  simp at hn
  unfold deepCells at h ⊢
  split at h
  ·exact deepCells_mono' hn h fun _ _ h => hk _ _ h
  ·exact deepCells_mono' hn h fun _ _ h => hk _ _ h
  ·split at h
   ·obtain ⟨xs, h1, h2⟩ := h
    exact ⟨xs, h1, deepCells_mono' (by simpa using hn) h2 fun _ _ h => hk _ _ h⟩
   ·exact h.elim
  ·exact h.elim
theorem srcD_mono {size : Nat} {v : SV} {K K' : List (List DV) → Prop} (hk : ∀ es, K es → K' es) (h : srcD S size v K) : srcD S size v K' := by
 unfold srcD at h ⊢
 split at h
 ·exact hk _ h
 ·exact ⟨h.1, hk _ h.2⟩
 ·split at h
  ·exact ⟨h.1, hk _ h.2⟩
  ·exact h.elim
 ·exact ⟨h.1, hk _ h.2⟩
 ·exact h.elim
theorem srcD_L {size : Nat} {v : SV} {K : List (List DV) → Prop} (hL : S.L = S'.L) : srcD S size v K = srcD S' size v K := by
 unfold srcD; simp only [Lx_off hL]
theorem eatD_mono {p size : Nat} {v : SV} {K K' : Nat → Nat → List (List DV) → Prop} (hk : ∀ q o es, K q o es → K' q o es) (h : eatD S p size v K) : eatD S p size v K' := by
 unfold eatD at h ⊢
 split at h
 ·split at h
  ·exact ⟨h.1, hk _ _ _ h.2⟩
  ·exact h.elim
 ·exact h.elim
theorem eatD_L {p size : Nat} {v : SV} {K : Nat → Nat → List (List DV) → Prop} (hL : S.L = S'.L) : eatD S p size v K = eatD S' p size v K := by
 unfold eatD; rw [hL]
theorem storeD_off {d : Tmp} {c : CV} {cs : List CV} {K : St → Prop} (ho : OffD d S S') (h : storeD S c cs K) : storeD S' c cs (Off1 d K) := by
 unfold storeD at h ⊢
 split at h
 ·rw [← ho.2]
  split at h
  ·exact ⟨h.1, _, h.2, ho.new _ _⟩
  ·exact h.elim
 ·rcases h with h | ⟨ws, h⟩
  ·left
   refine deepCells_mono' rfl (deepCells_off _ _ _ _ _ rfl ho h) ?_
   rintro T' ds ⟨T, h, ho'⟩
   rw [← ho'.2]
   split at h
   ·exact ⟨h.1, _, h.2, ho'.new _ _⟩
   ·exact h.elim
  ·right
   refine ⟨ws, moveD_mono (fun ds qs h => ?_) (moveD_L ho.2 h)⟩
   rw [← ho.2]
   split at h
   ·exact ⟨h.1, _, h.2, ((ho.gone _).killH _).new _ _⟩
   ·exact h.elim
 ·rw [← ho.2]
  split at h
  ·split at h
   ·split at h
    ·exact ⟨h.1, _, h.2, ho.new _ _⟩
    ·exact h.elim
   ·exact h.elim
  ·exact h.elim
 ·exact h.elim
theorem storeD_mono' {c : CV} {cs : List CV} {K K' : St → Prop} (h : storeD S c cs K) (hk : ∀ T, K T → K' T) : storeD S c cs K' := by
 unfold storeD at h ⊢
 split at h
 ·split at h
  ·exact ⟨h.1, hk _ h.2⟩
  ·exact h.elim
 ·rcases h with h | ⟨ws, h⟩
  ·left
   refine deepCells_mono' rfl h fun T ds h => ?_
   split at h
   ·exact ⟨h.1, hk _ h.2⟩
   ·exact h.elim
  ·right
   refine ⟨ws, moveD_mono (fun ds qs h => ?_) h⟩
   split at h
   ·exact ⟨h.1, hk _ h.2⟩
   ·exact h.elim
 ·split at h
  ·split at h
   ·split at h
    ·exact ⟨h.1, hk _ h.2⟩
    ·exact h.elim
   ·exact h.elim
  ·exact h.elim
 ·exact h.elim
theorem appD_off {d : Tmp} {nm : Nat} {dst : Option Tmp} {s x : Operand} {t t' : TypeId} {K : St → Prop} (ho : OffD d S S') (e1 : S.ev s = S'.ev s) (e2 : S.ev x = S'.ev x) (h : appD tb nm S dst s x t t' K) :
  appD tb nm S' dst s x t t' (Off1 d K) := by
 unfold appD at h ⊢
 split at h
 ·split at h
  ·refine ⟨h.1, ?_⟩
   replace h := h.2
   rw [← e1, ← e2]
   split at h
   ·rw [← ho.2]
    refine ⟨h.1, ?_⟩
    rw [← srcD_L ho.2]
    exact srcD_mono (fun es h => ⟨h.1, _, h.2, (ho.new _ _).put _ _⟩) h.2
   ·rw [← ho.2]
    split at h
    ·refine ⟨h.1, ?_⟩
     rcases h.2 with h | h
     ·left
      rw [← srcD_L ho.2]
      exact srcD_mono (fun es h => ⟨h.1, _, h.2, (((ho.kill _).new _ _).mov _).put _ _⟩) h
     ·right
      rw [← eatD_L ho.2]
      exact eatD_mono (fun q o es h => ⟨h.1, _, h.2, ((((ho.frz q).kill _).new _ _).mov _).put _ _⟩) h
    ·exact h.elim
   ·rw [← Lx_off ho.2, ← ho.2]
    split at h
    ·refine ⟨h.1, ?_⟩
     rw [← srcD_L ho.2]
     exact srcD_mono (fun es h => ⟨h.1, _, h.2, ((ho.takeOut _ _ _).new _ _).put _ _⟩) h.2
    ·exact h.elim
   ·rw [← ho.2]
    split at h
    ·split at h
     ·refine ⟨h.1, ?_⟩
      rw [← srcD_L ho.2]
      exact srcD_mono (fun es h => ⟨h.1, _, h.2, (ho.new _ _).put _ _⟩) h.2
     ·exact h.elim
    ·exact h.elim
   ·exact h.elim
  ·exact h.elim
 ·exact h.elim

theorem memD_off {d : Tmp} {nm : Nat} {op : Op} {dst : Option Tmp} {K : St → Prop} (ho : OffD d S S') (hd : ∀ x ∈ op.operands, x ≠ .tmp d) (h : memD tb nm S op dst K) : memD tb nm S' op dst (Off1 d K) := by
 have e : ∀ x ∈ op.operands, S.ev x = S'.ev x := fun x hx => ho.ev (hd x hx)
 have val : valD tb S op (fun v => K (S.put dst v)) → valD tb S' op (fun v => Off1 d K (S'.put dst v)) := valD_off ho hd fun v h => ⟨_, h, ho.put _ _⟩
 cases op with
 | box t x =>
  simp only [memD, ← e x (by simp [Op.operands]), ← ho.2] at h ⊢
  split at h
  ·refine ⟨h.1, ?_⟩
   rcases h.2 with h | ⟨ws, h⟩
   ·exact .inl ⟨_, h, (ho.new _ _).put _ _⟩
   ·exact .inr ⟨ws, moveD_mono (fun ds qs h => ⟨h.1, _, h.2, (((ho.gone _).killH _).new _ _).put _ _⟩) (moveD_L ho.2 h)⟩
  ·exact h.elim
 | alloc t =>
  simp only [memD, ← ho.2] at h ⊢
  split at h
  ·refine ⟨h.1, ?_⟩
   rcases h.2 with h | ⟨ws, h⟩
   ·exact .inl ⟨_, h, (ho.new _ _).put _ _⟩
   ·exact .inr ⟨ws, _, h, (ho.new _ _).put _ _⟩
  ·exact h.elim
 | store t x v =>
  simp only [memD, ← e x (by simp [Op.operands]), ← e v (by simp [Op.operands])] at h ⊢
  split at h
  ·refine ⟨h.1, storeD_mono' (storeD_off ho h.2) ?_⟩
   rintro T' ⟨T, h, ho'⟩
   exact ⟨_, h, ho'.put _ _⟩
  ·exact h.elim
 | buildSlice t len parts =>
  have : (parts.toList.map fun p => (p.1, S.ev p.2)) = parts.toList.map fun p => (p.1, S'.ev p.2) := List.map_congr_left fun p hp => by
   rw [e p.2 (by simp only [Op.operands, List.mem_toArray, List.mem_map]; exact ⟨p, hp, rfl⟩)]
  simp only [memD, ← this, ← ho.2] at h ⊢
  split at h
  ·split at h
   ·refine ⟨h.1, ?_⟩
    replace h := h.2
    split at h
    ·rcases h with h | ⟨ws, h⟩
     ·left
      refine deepCells_mono' rfl (deepCells_off _ _ _ _ _ rfl ho h) ?_
      rintro T' ds ⟨T, h, ho'⟩
      exact ⟨_, h, (ho'.new _ _).put _ _⟩
     ·exact .inr ⟨ws, moveD_mono (fun ds qs h => ⟨h.1, _, h.2, (((ho.gone _).killH _).new _ _).put _ _⟩) (moveD_L ho.2 h)⟩
    ·exact h.elim
   ·exact h.elim
  ·exact h.elim
 | makeSlice t l c =>
  simp only [memD, mapInt, ← e l (by simp [Op.operands]), ← e c (by simp [Op.operands]), ← ho.2] at h ⊢
  split at h
  ·split at h
   ·split at h
    ·split at h
     ·exact ⟨h.1, _, h.2, (ho.new _ _).put _ _⟩
     ·exact h.elim
    ·exact h.elim
   ·exact h.elim
  ·exact h.elim
 | call c =>
  simp only [memD] at h ⊢
  have ea : ∀ x ∈ c.args.toList, S.ev x = S'.ev x := fun x hx => e x (by
   simp only [Op.operands, Call.operands]
   cases c.callee <;> simp <;> first | exact .inr (by simpa using hx) | (simpa using hx))
  split at h
  ·rename_i s x t t' h1 h2 h3
   exact appD_off ho (ea s (by rw [h2]; simp)) (ea x (by rw [h2]; simp)) h
  ·rw [← callValD_ev ea]
   exact callValD_mono (fun v h => ⟨_, h, ho.put _ _⟩) h
 | convert s t x =>
  simp only [memD, ← e x (by simp [Op.operands]), ← ho.2] at h ⊢
  split at h
  ·split at h
   ·exact ⟨h.1, _, h.2, (ho.new _ _).put _ _⟩
   ·exact h.elim
  ·exact h.elim
  ·split at h
   ·rw [← srcD_L ho.2]
    refine srcD_mono (fun es h => ?_) h
    obtain ⟨bs, h1, h2⟩ := h
    exact ⟨bs, h1, _, h2, ho.put _ _⟩
   ·exact h.elim
  ·exact val h
 | _ => exact val h

variable {P : Program}
theorem argC_L {bor : Bool} {ps : List Nm} {c : CV} {K : CV → Prop} (hL : S.L = S'.L) : argC bor S ps c K = argC bor S' ps c K := by unfold argC; simp only [Lx_off hL]
theorem argCs_L {bor : Bool} {ps : List Nm} (hL : S.L = S'.L) : ∀ (cs : List CV) {K : List CV → Prop}, argCs bor S ps cs K = argCs bor S' ps cs K
 | [], _ => rfl
 | c :: cs, K => by simp only [argCs, argC_L hL, argCs_L hL cs]
theorem argS_L {bor : Bool} {ps : List Nm} (hL : S.L = S'.L) (v : SV) {K : SV → Prop} : argS bor S ps v K = argS bor S' ps v K := by
 unfold argS; split
 ·rw [argC_L hL]
 ·rw [argCs_L hL]
 ·rfl
 ·rfl
theorem argSs_L {bor : Bool} {ps : List Nm} (hL : S.L = S'.L) : ∀ (vs : List SV) {K : List SV → Prop}, argSs bor S ps vs K = argSs bor S' ps vs K
 | [], _ => rfl
 | v :: vs, K => by simp only [argSs, argS_L hL, argSs_L hL vs]
theorem rowsD_L {bor : Bool} {ps0 : List Nm} (hL : S.L = S'.L) : ∀ (ps : List Nm) {K : List Row → Prop}, rowsD bor S ps0 ps K = rowsD bor S' ps0 ps K
 | [], _ => rfl
 | .v p :: ps, K => by simp only [rowsD, hL, argCs_L hL, rowsD_L hL ps]
 | .h p a b :: ps, K => by simp only [rowsD, Lx_off hL, rowsD_L hL ps]
theorem argC_mono {bor : Bool} {ps : List Nm} {c : CV} {K K' : CV → Prop} (hk : ∀ x, K x → K' x) (h : argC bor S ps c K) : argC bor S ps c K' := by
 unfold argC at h ⊢
 split at h
 ·exact hk _ h
 ·exact hk _ h
 ·exact hk _ h
 ·split at h
  ·exact hk _ h
  ·exact h.elim
 ·split at h
  ·exact hk _ h
  ·split at h
   ·obtain ⟨xs, h1, h2⟩ := h
    exact ⟨xs, h1, hk _ h2⟩
   ·exact h.elim
 ·split at h
  ·exact hk _ h
  ·split at h
   ·obtain ⟨xs, h1, h2⟩ := h
    exact ⟨xs, h1, hk _ h2⟩
   ·exact h.elim
 ·exact h.elim
 ·exact hk _ h
theorem argCs_mono {bor : Bool} {ps : List Nm} : ∀ {cs : List CV} {K K' : List CV → Prop}, (∀ x, K x → K' x) → argCs bor S ps cs K → argCs bor S ps cs K'
 | [], _, _, hk, h => hk _ h
 | c :: cs, K, K', hk, h => argC_mono (fun _ h => argCs_mono (fun _ h => hk _ h) h) h
theorem argS_mono {bor : Bool} {ps : List Nm} {v : SV} {K K' : SV → Prop} (hk : ∀ x, K x → K' x) (h : argS bor S ps v K) : argS bor S ps v K' := by
 unfold argS at h ⊢
 split at h
 ·exact argC_mono (fun _ h => hk _ h) h
 ·exact argCs_mono (fun _ h => hk _ h) h
 ·exact hk _ h
 ·exact h.elim
theorem argSs_mono {bor : Bool} {ps : List Nm} : ∀ {vs : List SV} {K K' : List SV → Prop}, (∀ x, K x → K' x) → argSs bor S ps vs K → argSs bor S ps vs K'
 | [], _, _, hk, h => hk _ h
 | v :: vs, K, K', hk, h => argS_mono (fun _ h => argSs_mono (fun _ h => hk _ h) h) h
theorem rowsD_mono {bor : Bool} {ps0 : List Nm} : ∀ {ps : List Nm} {K K' : List Row → Prop}, (∀ x, K x → K' x) → rowsD bor S ps0 ps K → rowsD bor S ps0 ps K'
 | [], _, _, hk, h => hk _ h
 |.v p :: ps, K, K', hk, h => by
  unfold rowsD at h ⊢
  split at h
  ·exact rowsD_mono (fun _ h => hk _ h) h
  ·exact argCs_mono (fun _ h => rowsD_mono (fun _ h => hk _ h) h) h
  ·exact h.elim
 |.h p a b :: ps, K, K', hk, h => by
  unfold rowsD at h ⊢
  split at h
  ·exact rowsD_mono (fun _ h => hk _ h) h
  ·exact h.elim
theorem callD_off {d : Tmp} {nm : Nat} {dst : Option Tmp} {fv : SV} {args : List SV} {K : St → Prop} (ho : OffD d S S') (h : callD P nm S dst fv args K) : callD P nm S' dst fv args (Off1 d K) := by
 obtain ⟨ps, hk, bor, f, h1, ⟨h2, h2'⟩, h⟩ := h
 refine ⟨ps, hk, bor, f, h1, ⟨⟨h2.nd, h2.hov, h2.one, by rw [← ho.2]; exact h2.hk, h2.len⟩, h2'⟩, ?_⟩
 rw [← argSs_L ho.2]
 refine argSs_mono (fun args' h => ?_) h
 rw [← rowsD_L ho.2]
 refine rowsD_mono (fun Li h => ?_) h
 obtain ⟨mv, cl, Post, hc, hcl, h⟩ := h
 refine ⟨mv, cl, Post, hc, hcl, fun res Lo hp => ?_⟩
 obtain ⟨⟨g1, g2, g4⟩, g3⟩ := h res Lo hp
 exact ⟨⟨by rw [← ho.2]; exact g1, g2, by unfold hidOk at *; rw [← ho.2]; exact g4⟩, _, g3, (ho.after _ _ _ _ _).put _ _⟩
theorem opD_off {d : Tmp} {nm : Nat} {op : Op} {dst : Option Tmp} {K : St → Prop} (ho : OffD d S S') (hd : ∀ x ∈ op.operands, x ≠ .tmp d) (h : opD P tb nm S op dst K) : opD P tb nm S' op dst (Off1 d K) := by
 unfold opD at h ⊢
 split at h
 ·rename_i c
  split at h
  ·rename_i fo hc
   have e : ∀ x ∈ (Op.call c).operands, S.ev x = S'.ev x := fun x hx => ho.ev (hd x hx)
   have e1 : S.ev fo = S'.ev fo := e fo (by simp [Op.operands, Call.operands, hc])
   have e2 : c.args.toList.map S.ev = c.args.toList.map S'.ev := List.map_congr_left fun x hx => e x (by simp [Op.operands, Call.operands, hc]; exact .inr (by simpa using hx))
   rw [← e1, ← e2]
   exact callD_off ho h
  ·exact memD_off ho hd h
 ·exact memD_off ho hd h
end
end Go.Proofs.Ytpdjehnlejjfmaa.D
/- Regions that draw their order: what makes no difference is taken first. -/
namespace Go.Proofs.Ytpdjehnlejjfmaa.D
open Go.RowKit

section
variable {P : Program} {tb : TypeId → Option TyI} {S S' : St}

theorem mapInt_const {x : Operand} {p : Prop} (h : mapInt S x fun _ _ => p) : p := by
 unfold mapInt at h; split at h
 ·exact h
 ·exact h.elim
theorem boundD_const {x : Option Operand} {d y : Nat} {p : Prop} (h : boundD S x d y fun _ => p) : p := by
 unfold boundD at h; split at h
 ·exact h
 ·exact mapInt_const (mapInt_mono (K' := fun _ _ => p) (fun _ _ h => h.2) h)
theorem selD_const {i : TyI} {cs : List CV} {o : Nat} {p : Prop} (h : selD i cs o fun _ => p) : p := by
 unfold selD at h; split at h
 ·exact aggD_const h.2
 ·split at h
  ·exact h
  ·exact h.elim
theorem binD_const {op : BinOp} {t : TypeId} {u v : Value} {p : Prop} (h : binD tb op t u v fun _ => p) : p := by
  unfold binD at h
  split at h <;> first
    | exact h
    | exact h.2
    | exact h.2.2
    | (split at h
       · exact h
       · exact h.elim)
    | exact h.elim
theorem eqFs_const {rec : TypeId → SV → SV → (Bool → Prop) → Prop} (hm : ∀ t u v (K K' : Bool → Prop), (∀ b, K b → K' b) → rec t u v K → rec t u v K') (hrec : ∀ t u v (p : Prop), rec t u v (fun _ => p) → p) :
  ∀ (fs : List (Nat × TypeId)) (cs ds : List CV) {p : Prop}, eqFs tb rec fs cs ds (fun _ => p) → p
 | [], _, _, _, h => h
 |(off, ft) :: rest, cs, ds, p, h => by
  simp only [eqFs] at h
  split at h
  ·refine selD_const (selD_mono (K' := fun _ => p) (fun a h => selD_const (selD_mono (K' := fun _ => p) (fun b h => ?_) h)) h)
   exact hrec _ _ _ p (hm _ _ _ _ _ (fun _ h => eqFs_const hm hrec rest cs ds h) h)
  ·exact h.elim
theorem eqK_const : ∀ (n : Nat) (t : TypeId) (u v : SV) {p : Prop}, eqK tb n t u v (fun _ => p) → p
 | 0, _, _, _, _, h => h.elim
 |n + 1, t, u, v, p, h => by
  unfold eqK at h
  split at h
  ·exact h.2
  ·exact h
  ·exact h
  ·exact eqFs_const (fun t u v K K' => eqK_mono n t u v) (fun t u v p h => eqK_const n t u v h) _ _ _ h
  ·exact h.elim
theorem lenD_const {t : TypeId} {v : SV} {p : Prop} (h : lenD tb t v fun _ => p) : p := by
 unfold lenD at h
 split at h <;> first
  | exact h
  | exact h.elim
theorem callValD_const {c : Callee} {args : List Operand} {types : List TypeId} {p : Prop} (h : callValD tb S c args types fun _ => p) : p := by
 unfold callValD at h
 split at h
 ·split at h
  ·exact lenD_const h
  ·exact h.elim
 ·split at h
  ·exact mapInt_const (mapInt_mono (K' := fun _ _ => p) (fun _ _ h => mapInt_const h) h)
  ·exact h.elim
 ·split at h
  ·exact mapInt_const (mapInt_mono (K' := fun _ _ => p) (fun _ _ h => mapInt_const h) h)
  ·exact h.elim
 ·exact h.elim
theorem valD_const {op : Op} {p : Prop} (h : valD tb S op fun _ => p) : p := by
 cases op <;> simp only [valD] at h <;> first
  | exact h
  | exact h.elim
  | exact callValD_const h
  | skip
 case binOp =>
  split at h
  ·exact binD_const h
  ·split at h
   ·exact eqK_const _ _ _ _ h
   ·exact eqK_const _ _ _ _ h
   ·exact h.elim
  ·exact h.elim
 case field =>
  split at h
  ·split at h
   ·split at h
    ·exact selD_const h
    ·exact h.elim
   ·exact h.elim
  ·exact h.elim
 case indexAddr =>
  refine mapInt_const (mapInt_mono (K' := fun _ _ => p) (fun k n h => ?_) h)
  split at h
  ·split at h
   ·exact h.2
   ·exact h.elim
  ·split at h
   ·exact h.2.2
   ·exact h.elim
  ·split at h
   ·replace h := h.2
    split at h
    ·exact h
    ·exact h.elim
   ·exact h.elim
  ·exact h.elim
 case index =>
  refine mapInt_const (mapInt_mono (K' := fun _ _ => p) (fun k n h => ?_) h)
  split at h
  ·split at h
   ·exact selD_const h.2
   ·exact h.elim
  ·split at h
   ·exact selD_const h.2
   ·exact h.elim
  ·replace h := h.2
   split at h
   ·exact h
   ·exact h.elim
  ·exact h.elim
 case slice =>
  split at h
  ·exact boundD_const (boundD_mono (K' := fun _ => p) (fun _ h => boundD_const h) h.2)
  ·split at h
   ·exact boundD_const (boundD_mono (K' := fun _ => p) (fun _ h => boundD_const h) h.2.2)
   ·exact h.elim
  ·split at h
   ·exact boundD_const (boundD_mono (K' := fun _ => p) (fun _ h => boundD_const h) h.2.2)
   ·exact h.elim
  ·split at h
   ·exact h.2
   ·exact h.elim
  ·exact h.elim
 case build =>
  split at h
  ·replace h := h.2
   split at h
   ·exact h
   ·exact h.elim
  ·split at h
   ·replace h := h.2
    split at h
    ·exact h
    ·exact h.elim
   ·exact h.elim
  ·exact h.elim
 case load =>
  split at h
  ·split at h
   ·exact selD_const h
   ·exact h.elim
  ·exact h.elim
 case extract =>
  split at h
  ·split at h
   ·exact aggD_const h
   ·exact h
   ·exact h.elim
  ·exact h.elim
 all_goals
  split at h <;> first
   | exact h
   | exact h.elim
   | (split at h <;> first
     | exact h
     | exact h.elim
     | (split at h <;> first
       | exact h
       | exact h.elim))

theorem mapInt_det {x : Operand} {K : IntKind → Int → Prop} (h : mapInt S x K) : ∃ k n, K k n ∧ ∀ K' : IntKind → Int → Prop, K' k n → mapInt S x K' := by
 unfold mapInt at h; split at h
 ·rename_i k n e; exact ⟨k, n, h, fun K' h' => by simp only [mapInt, e]; exact h'⟩
 ·exact h.elim
theorem boundD_det {x : Option Operand} {d y : Nat} {K : Nat → Prop} (h : boundD S x d y K) : ∃ n, K n ∧ ∀ K' : Nat → Prop, K' n → boundD S x d y K' := by
 unfold boundD at h; split at h
 ·exact ⟨_, h, fun K' h' => h'⟩
 ·obtain ⟨k, n, ⟨h1, h2⟩, g⟩ := mapInt_det h
  exact ⟨_, h2, fun K' h' => g _ ⟨h1, h'⟩⟩
theorem aggD_det {cs : List CV} {K : SV → Prop} (h : aggD cs K) : ∃ v, K v ∧ ∀ K' : SV → Prop, K' v → aggD cs K' := by
 rcases h with h | ⟨ds, e, h⟩
 ·exact ⟨_, h, fun K' h' => .inl h'⟩
 ·exact ⟨_, h, fun K' h' => .inr ⟨ds, e, h'⟩⟩
theorem selD_det {i : TyI} {cs : List CV} {o : Nat} {K : SV → Prop} (h : selD i cs o K) : ∃ v, K v ∧ ∀ K' : SV → Prop, K' v → selD i cs o K' := by
 unfold selD at h; split at h
 ·rename_i e; obtain ⟨v, g1, g2⟩ := aggD_det h.2; exact ⟨v, g1, fun K' h' => by unfold selD; rw [e]; exact ⟨h.1, g2 _ h'⟩⟩
 ·rename_i e
  split at h
  ·rename_i c hc; exact ⟨_, h, fun K' h' => by unfold selD; rw [e]; simp only [hc]; exact h'⟩
  ·exact h.elim
theorem binD_det {op : BinOp} {t : TypeId} {u v : Value} {K : Value → Prop} (h : binD tb op t u v K) : ∃ r, K r ∧ ∀ K' : Value → Prop, K' r → binD tb op t u v K' := by
  unfold binD at h
  split at h <;> first
    | exact ⟨_, h, fun K' h' => h'⟩
    | exact ⟨_, h.2, fun K' h' => ⟨h.1, h'⟩⟩
    | exact ⟨_, h.2.2, fun K' h' => ⟨h.1, h.2.1, h'⟩⟩
    | (split at h
       · rename_i e; exact ⟨_, h, fun K' h' => by simp only [binD, e]; exact h'⟩
       · exact h.elim)
    | exact h.elim
theorem eqFs_det {rec : TypeId → SV → SV → (Bool → Prop) → Prop} (hrec : ∀ t u v (K : Bool → Prop), rec t u v K → ∃ b, K b ∧ ∀ K' : Bool → Prop, K' b → rec t u v K') :
  ∀ (fs : List (Nat × TypeId)) (cs ds : List CV) {K : Bool → Prop}, eqFs tb rec fs cs ds K → ∃ b, K b ∧ ∀ K' : Bool → Prop, K' b → eqFs tb rec fs cs ds K'
 | [], _, _, _, h => ⟨_, h, fun _ h => h⟩
 |(off, ft) :: rest, cs, ds, K, h => by
  simp only [eqFs] at h ⊢
  split at h
  ·rename_i i hi
   obtain ⟨a, h, g1⟩ := selD_det h
   obtain ⟨b, h, g2⟩ := selD_det h
   obtain ⟨r, h, g3⟩ := hrec _ _ _ _ h
   obtain ⟨r', h, g4⟩ := eqFs_det hrec rest cs ds h
   exact ⟨_, h, fun K' h' => g1 _ (g2 _ (g3 _ (g4 _ h')))⟩
  ·exact h.elim
theorem eqK_det : ∀ (n : Nat) (t : TypeId) (u v : SV) {K : Bool → Prop}, eqK tb n t u v K → ∃ b, K b ∧ ∀ K' : Bool → Prop, K' b → eqK tb n t u v K'
 | 0, _, _, _, _, h => h.elim
 |n + 1, t, u, v, K, h => by
  unfold eqK at h
  split at h
  ·rename_i e; exact ⟨_, h.2, fun K' h' => by simp only [eqK, e]; exact ⟨h.1, h'⟩⟩
  ·rename_i e; exact ⟨_, h, fun K' h' => by simp only [eqK, e]; exact h'⟩
  ·rename_i e; exact ⟨_, h, fun K' h' => by simp only [eqK, e]; exact h'⟩
  ·rename_i e
   obtain ⟨b, h, g⟩ := eqFs_det (fun t u v K => eqK_det n t u v) _ _ _ h
   exact ⟨b, h, fun K' h' => by simp only [eqK, e]; exact g _ h'⟩
  ·exact h.elim
theorem lenD_det {t : TypeId} {v : SV} {K : SV → Prop} (h : lenD tb t v K) : ∃ r, K r ∧ ∀ K' : SV → Prop, K' r → lenD tb t v K' := by
 unfold lenD at h
 split at h <;> first
  | (rename_i e; exact ⟨_, h, fun K' h' => by simp only [lenD, e]; exact h'⟩)
  | exact h.elim
theorem callValD_det {c : Callee} {args : List Operand} {types : List TypeId} {K : SV → Prop} (h : callValD tb S c args types K) : ∃ r, K r ∧ ∀ K' : SV → Prop, K' r → callValD tb S c args types K' := by
 unfold callValD at h
 split at h
 ·split at h
  ·exact lenD_det h
  ·exact h.elim
 ·split at h
  ·obtain ⟨k, m, h, g1⟩ := mapInt_det h
   obtain ⟨k', n, h, g2⟩ := mapInt_det h
   exact ⟨_, h, fun K' h' => g1 _ (g2 _ h')⟩
  ·exact h.elim
 ·split at h
  ·obtain ⟨k, m, h, g1⟩ := mapInt_det h
   obtain ⟨k', n, h, g2⟩ := mapInt_det h
   exact ⟨_, h, fun K' h' => g1 _ (g2 _ h')⟩
  ·exact h.elim
 ·exact h.elim
theorem valD_det {op : Op} {K : SV → Prop} (h : valD tb S op K) : ∃ v, K v ∧ ∀ K' : SV → Prop, K' v → valD tb S op K' := by
 cases op <;> simp only [valD] at h ⊢ <;> first
  | exact ⟨_, h, fun _ h => h⟩
  | exact h.elim
  | exact callValD_det h
  | skip
 case binOp =>
  split at h
  ·exact (binD_det h).elim fun r hr => ⟨_, hr.1, fun K' h' => hr.2 _ h'⟩
  ·split at h
   ·exact (eqK_det _ _ _ _ h).elim fun r hr => ⟨_, hr.1, fun K' h' => hr.2 _ h'⟩
   ·exact (eqK_det _ _ _ _ h).elim fun r hr => ⟨_, hr.1, fun K' h' => hr.2 _ h'⟩
   ·exact h.elim
  ·exact h.elim
 case field =>
  split at h
  ·split at h
   ·split at h
    ·exact selD_det h
    ·exact h.elim
   ·exact h.elim
  ·exact h.elim
 case indexAddr =>
  obtain ⟨k, n, h, g⟩ := mapInt_det h
  split at h
  ·split at h
   ·exact ⟨_, h.2, fun K' h' => g _ ⟨h.1, h'⟩⟩
   ·exact h.elim
  ·split at h
   ·exact ⟨_, h.2.2, fun K' h' => g _ ⟨h.1, h.2.1, h'⟩⟩
   ·exact h.elim
  ·split at h
   ·obtain ⟨h0, h⟩ := h
    split at h
    ·rename_i e; exact ⟨_, h, fun K' h' => g _ ⟨h0, by simp only [e]; exact h'⟩⟩
    ·exact h.elim
   ·exact h.elim
  ·exact h.elim
 case index =>
  obtain ⟨k, n, h, g⟩ := mapInt_det h
  split at h
  ·split at h
   ·obtain ⟨v, h1, h2⟩ := selD_det h.2
    exact ⟨v, h1, fun K' h' => g _ ⟨h.1, h2 _ h'⟩⟩
   ·exact h.elim
  ·split at h
   ·obtain ⟨v, h1, h2⟩ := selD_det h.2
    exact ⟨v, h1, fun K' h' => g _ ⟨h.1, h2 _ h'⟩⟩
   ·exact h.elim
  ·obtain ⟨h0, h⟩ := h
   split at h
   ·rename_i e; exact ⟨_, h, fun K' h' => g _ ⟨h0, by simp only [e]; exact h'⟩⟩
   ·exact h.elim
  ·exact h.elim
 case slice =>
  split at h
  ·obtain ⟨a, h1, g1⟩ := boundD_det h.2
   obtain ⟨b, h2, g2⟩ := boundD_det h1
   exact ⟨_, h2, fun K' h' => ⟨h.1, g1 _ (g2 _ h')⟩⟩
  ·split at h
   ·obtain ⟨a, h1, g1⟩ := boundD_det h.2.2
    obtain ⟨b, h2, g2⟩ := boundD_det h1
    exact ⟨_, h2, fun K' h' => ⟨h.1, h.2.1, g1 _ (g2 _ h')⟩⟩
   ·exact h.elim
  ·split at h
   ·obtain ⟨a, h1, g1⟩ := boundD_det h.2.2
    obtain ⟨b, h2, g2⟩ := boundD_det h1
    exact ⟨_, h2, fun K' h' => ⟨h.1, h.2.1, g1 _ (g2 _ h')⟩⟩
   ·exact h.elim
  ·split at h
   ·exact ⟨_, h.2, fun K' h' => ⟨h.1, h'⟩⟩
   ·exact h.elim
  ·exact h.elim
 case build =>
  split at h
  ·obtain ⟨h0, h⟩ := h
   split at h
   ·exact ⟨_, h, fun K' h' => ⟨h0, h'⟩⟩
   ·exact h.elim
  ·split at h
   ·obtain ⟨h0, h⟩ := h
    split at h
    ·exact ⟨_, h, fun K' h' => ⟨h0, h'⟩⟩
    ·exact h.elim
   ·exact h.elim
  ·exact h.elim
 case load =>
  split at h
  ·split at h
   ·exact selD_det h
   ·exact h.elim
  ·exact h.elim
 case extract =>
  split at h
  ·split at h
   ·exact aggD_det h
   ·exact ⟨_, h, fun _ h => h⟩
   ·exact h.elim
  ·exact h.elim
 all_goals
  split at h <;> first
   | exact ⟨_, h, fun _ h => h⟩
   | exact h.elim
   | (split at h <;> first
     | exact ⟨_, h, fun _ h => h⟩
     | exact h.elim
     | (split at h <;> first
       | exact ⟨_, h, fun _ h => h⟩
       | exact h.elim))
theorem srcD_det {size : Nat} {v : SV} {K : List (List DV) → Prop} (h : srcD S size v K) : ∃ es, K es ∧ ∀ K' : List (List DV) → Prop, K' es → srcD S size v K' := by
 unfold srcD at h ⊢
 split at h
 ·exact ⟨_, h, fun _ h => h⟩
 ·exact ⟨_, h.2, fun _ h' => ⟨h.1, h'⟩⟩
 ·split at h
  ·exact ⟨_, h.2, fun _ h' => ⟨h.1, h'⟩⟩
  ·exact h.elim
 ·exact ⟨_, h.2, fun _ h' => ⟨h.1, h'⟩⟩
 ·exact h.elim

def isV (tb : TypeId → Option TyI) : Op → Bool
 | .move _ | .assign _ | .pick _ _ _ | .binOp _ _ _ _ _ | .unOp _ _ _ | .fieldAddr _ _ _ | .field _ _ _ | .indexAddr _ _ _ | .index _ _ _ | .slice _ _ _ _ _ | .extract _ _ | .nilCheck _ | .build _ _ | .load _ _ => true
 | .convert s t _ => (match tb s, tb t with | some { kind := .string, .. }, some { kind := .slice _, .. } => false | some _, some _ => true | _, _ => false)
 | .call c => (match c.callee with | .builtin .len => true | .builtin .max => true | .builtin .min => true | _ => false)
 | _ => false
def valX (tb : TypeId → Option TyI) (S : St) (op : Op) (K : SV → Prop) : Prop :=
 match op with
 | .convert s t x =>
  (match tb s, tb t, S.ev x with
  | some { kind := .slice _, .. }, some { kind := .string, .. }, .one (.dv (.sc _)) => False
  | some { kind := .slice e, .. }, some { kind := .string, .. }, v =>
   (match tb e with
   | some { kind := .int .u8, .. } => srcD S 1 v fun es => ∃ bs : List UInt8, es = bs.map (fun b => [.sc (.int .u8 b.toNat)]) ∧ K (vS ⟨bs.toArray⟩)
   | _ => False)
  | _, _, _ => valD tb S op K)
 | op => valD tb S op K
theorem valX_const {op : Op} {p : Prop} (h : valX tb S op fun _ => p) : p := by
  unfold valX at h
  split at h
  · split at h
    · exact h.elim
    · split at h
      · unfold srcD at h
        split at h <;> first
          | (obtain ⟨_, _, h⟩ := h; exact h)
          | (obtain ⟨_, _, _, h⟩ := h; exact h)
          | (split at h
             · obtain ⟨_, _, _, h⟩ := h; exact h
             · exact h.elim)
          | exact h.elim
      · exact h.elim
    · exact valD_const h
  · exact valD_const h
theorem valX_off {d : Tmp} {op : Op} (h : OffD d S S') (hd : ∀ x ∈ op.operands, x ≠ .tmp d) {K K' : SV → Prop} (hk : ∀ v, K v → K' v) (hv : valX tb S op K) : valX tb S' op K' := by
 unfold valX at hv ⊢
 split at hv
 ·rename_i s t x
  have e : S.ev x = S'.ev x := h.ev (hd x (by simp [Op.operands]))
  rw [← e]
  split at hv
  ·exact hv.elim
  ·split at hv
   ·rw [← srcD_L h.2]
    refine srcD_mono (fun es h => ?_) hv
    obtain ⟨bs, h1, h2⟩ := h
    exact ⟨bs, h1, hk _ h2⟩
   ·exact hv.elim
  ·exact valD_off h hd hk hv
 ·exact valD_off h hd hk hv
theorem valX_mono {op : Op} {K K' : SV → Prop} (hk : ∀ v, K v → K' v) (hv : valX tb S op K) : valX tb S op K' := by
 unfold valX at hv ⊢
 split at hv
 ·split at hv
  ·exact hv.elim
  ·split at hv
   ·refine srcD_mono (fun es h => ?_) hv
    obtain ⟨bs, h1, h2⟩ := h
    exact ⟨bs, h1, hk _ h2⟩
   ·exact hv.elim
  ·exact valD_mono hk hv
 ·exact valD_mono hk hv
theorem valX_det {op : Op} {K : SV → Prop} (h : valX tb S op K) : ∃ v, K v ∧ ∀ K' : SV → Prop, K' v → valX tb S op K' := by
 unfold valX at h ⊢
 split at h
 ·split at h
  ·exact h.elim
  ·split at h
   ·obtain ⟨es, ⟨bs, h1, h2⟩, g⟩ := srcD_det h
    exact ⟨_, h2, fun K' h' => g _ ⟨bs, h1, h'⟩⟩
   ·exact h.elim
  ·exact valD_det h
 ·exact valD_det h
theorem opD_valX {nm : Nat} {op : Op} {dst : Option Tmp} {K : St → Prop} (hv : isV tb op = true) : opD P tb nm S op dst K ↔ valX tb S op fun v => K (S.put dst v) := by
 cases op with
 | convert s t x =>
  simp only [opD, memD, valX]
  simp only [isV] at hv
  cases hs : tb s with
  | none => simp [hs] at hv
  | some i =>
   cases ht : tb t with
   | none => simp [hs, ht] at hv
   | some j =>
    obtain ⟨ki, _, _, _, _⟩ := i
    obtain ⟨kj, _, _, _, _⟩ := j
    generalize hx : S.ev x = v
    have hx' : ∀ K, valD tb S (.convert s t x) K = valD tb S (.convert s t x) K := fun _ => rfl
    cases ki <;> cases kj <;> first
     | rfl
     | (simp [hs, ht] at hv; done)
     |(cases v with
      |one c => cases c with
       | dv d => cases d <;> rfl
       | _ => rfl
      | _ => rfl)
 | call c =>
  simp only [isV] at hv
  simp only [opD, valX, valD]
  split at hv <;> rename_i hc <;> simp only [hc, memD, callValD] <;> first
   | rfl
   | simp at hv
 |_ => first
  | rfl
  | simp [isV] at hv
end
end Go.Proofs.Ytpdjehnlejjfmaa.D
/- Regions that draw their order: one order stands for all. -/
namespace Go.Proofs.Ytpdjehnlejjfmaa.D
open Go.RowKit

def guardOf (ops : Array Oper) (S : St) (j : Nat) (want : Bool) : Option Bool :=
 match (ops[j]?).bind (·.dst) with
 | some t => (match S.T t with | .one (.dv (.sc (.bool b))) => some b | .tup [] => some !want | _ => none)
 | none => none
def stepD (P : Program) (tb : TypeId → Option TyI) (base : Nat) (ops : Array Oper) (i : Nat) (S : St) (K : St → Prop) : Prop :=
 match ops[i]? with
 | some o =>
  (match o.guard with
  | none => opD P tb (base + 16 * i) S o.op o.dst K
  | some (j, want) =>
   (match guardOf ops S j want with
   | some b => (b = want → opD P tb (base + 16 * i) S o.op o.dst K) ∧ (b ≠ want → K (S.put o.dst (.tup [])))
   | none => False))
 | none => False
def stepV (tb : TypeId → Option TyI) (ops : Array Oper) (o : Oper) (S : St) (K : SV → Prop) : Prop :=
 match o.guard with
 | none => valX tb S o.op K
 | some (j, want) =>
  (match guardOf ops S j want with
  | some b => (b = want → valX tb S o.op K) ∧ (b ≠ want → K (.tup []))
  | none => False)
def recheck (tb : TypeId → Option TyI) (ops : Array Oper) (i : Nat) (S : St) : Prop :=
 ∃ o t, ops[i]? = some o ∧ o.dst = some t ∧ stepV tb ops o S fun v => v = S.T t
def preds (ops : Array Oper) (j : Nat) : List Nat := match ops[j]? with | some o => (o.after.toList.filter fun e => Region.binds .any e).map (·.on) | none => []
def ancS (ops : Array Oper) : Nat → List Nat → List Nat → List Nat
 | 0, _, seen => seen
 | _ + 1, [], seen => seen
 | n + 1, k :: fr, seen => if seen.any (fun x => Nat.beq x k) = true then ancS ops n fr seen else ancS ops n (preds ops k ++ fr) (k :: seen)
def before (ops : Array Oper) (i j : Nat) : Bool := (ancS ops 4000 (preds ops j) []).any fun x => Nat.beq x i
def Closed (ops : Array Oper) (listed : Array Bool) : Prop := ∀ k, listed.getD k false = true → ∀ x ∈ preds ops k, listed.getD x false = true
theorem ancS_listed {ops : Array Oper} {listed : Array Bool} (hc : Closed ops listed) : ∀ (n : Nat) (fr seen : List Nat), (∀ k ∈ fr, listed.getD k false = true) → (∀ k ∈ seen, listed.getD k false = true) → ∀ k ∈ ancS ops n fr seen, listed.getD k false = true
 | 0, _, _, _, hs => hs
 | _ + 1, [], _, _, hs => hs
 |n + 1, k :: fr, seen, hf, hs => by
  unfold ancS
  split
  ·exact ancS_listed hc n fr seen (fun x hx => hf x (List.mem_cons_of_mem _ hx)) hs
  ·refine ancS_listed hc n _ _ (fun x hx => (List.mem_append.1 hx).elim (hc k (hf k (List.mem_cons_self ..)) x) (fun h => hf x (List.mem_cons_of_mem _ h))) (fun x hx => (List.mem_cons.1 hx).elim (fun e => e ▸ hf k (List.mem_cons_self ..)) (hs x))
theorem preds_of_ready {ops : Array Oper} {listed : Array Bool} {j : Nat} (hj : j ∈ Region.ready .any ops listed) : ∀ x ∈ preds ops j, listed.getD x false = true := by
 obtain ⟨_, oj, hoj, hall⟩ := mem_ready.1 hj
 intro x hx
 simp only [preds, hoj, List.mem_map, List.mem_filter] at hx
 obtain ⟨e, ⟨he, hb⟩, rfl⟩ := hx
 exact hall e (by simpa using he) hb
theorem Closed.set {ops : Array Oper} {listed : Array Bool} {j : Nat} (hc : Closed ops listed) (hj : j ∈ Region.ready .any ops listed) : Closed ops (listed.setIfInBounds j true) := by
 intro k hk x hx
 by_cases e : j = k
 ·subst e; exact getD_set_true (preds_of_ready hj x hx)
 ·rw [getD_set_ne false e] at hk; exact getD_set_true (hc k hk x hx)

section
variable {P : Program} {tb : TypeId → Option TyI} {ops : Array Oper} {base : Nat} {S S' : St}

theorem opnd_of_looks {o : Oper} {d : Tmp} (h : d ∉ o.looksAt ops) : ∀ x ∈ o.op.operands, x ≠ .tmp d := by
 rintro x hx rfl
 refine h ?_
 simp only [Oper.looksAt, List.mem_append, List.mem_filterMap]
 exact .inl ⟨.tmp d, by simpa using hx, rfl⟩
theorem guardOf_off {o : Oper} {d : Tmp} (h : d ∉ o.looksAt ops) {j : Nat} {want : Bool} (hg : o.guard = some (j, want)) (ho : OffD d S S') : guardOf ops S j want = guardOf ops S' j want := by
 unfold guardOf
 split
 ·rename_i t ht
  have : t ≠ d := by
   rintro rfl
   refine h ?_
   simp only [Oper.looksAt, List.mem_append, hg]
   exact .inr (by simp [ht])
  rw [ho.1 t this]
 ·rfl
theorem stepD_off {d : Tmp} {i : Nat} {o : Oper} (hi : ops[i]? = some o) (hd : d ∉ o.looksAt ops) (ho : OffD d S S') {K : St → Prop} (h : stepD P tb base ops i S K) : stepD P tb base ops i S' (Off1 d K) := by
 simp only [stepD, hi] at h ⊢
 split at h
 ·exact opD_off ho (opnd_of_looks hd) h
 ·rename_i j want hg
  rw [← guardOf_off hd hg ho]
  split at h
  ·exact ⟨fun e => opD_off ho (opnd_of_looks hd) (h.1 e), fun e => ⟨_, h.2 e, ho.put _ _⟩⟩
  ·exact h.elim
theorem stepV_off {d : Tmp} {o : Oper} (hd : d ∉ o.looksAt ops) (ho : OffD d S S') {K K' : SV → Prop} (hk : ∀ v, K v → K' v) (h : stepV tb ops o S K) : stepV tb ops o S' K' := by
 simp only [stepV] at h ⊢
 split at h
 ·exact valX_off ho (opnd_of_looks hd) hk h
 ·rename_i j want hg
  rw [← guardOf_off hd hg ho]
  split at h
  ·exact ⟨fun e => valX_off ho (opnd_of_looks hd) hk (h.1 e), fun e => hk _ (h.2 e)⟩
  ·exact h.elim
theorem stepV_mono {o : Oper} {K K' : SV → Prop} (hk : ∀ v, K v → K' v) (h : stepV tb ops o S K) : stepV tb ops o S K' := by
 simp only [stepV] at h ⊢
 split at h
 ·exact valX_mono hk h
 ·split at h
  ·exact ⟨fun e => valX_mono hk (h.1 e), fun e => hk _ (h.2 e)⟩
  ·exact h.elim
theorem stepV_const {o : Oper} {p : Prop} (h : stepV tb ops o S fun _ => p) : p := by
 simp only [stepV] at h
 split at h
 ·exact valX_const h
 ·rename_i j want hg
  split at h
  ·rename_i b hb
   by_cases e : b = want
   ·exact valX_const (h.1 e)
   ·exact h.2 e
  ·exact h.elim
theorem stepD_stepV {i : Nat} {o : Oper} (hi : ops[i]? = some o) (hv : isV tb o.op = true) {K : St → Prop} : stepD P tb base ops i S K ↔ stepV tb ops o S fun v => K (S.put o.dst v) := by
 simp only [stepD, stepV, hi]
 split
 ·exact opD_valX hv
 ·split
  ·simp only [opD_valX hv]
  ·exact Iff.rfl

theorem appD_mono {nm : Nat} {dst : Option Tmp} {s x : Operand} {t t' : TypeId} {K K' : St → Prop} (hk : ∀ T, K T → K' T) (h : appD tb nm S dst s x t t' K) : appD tb nm S dst s x t t' K' := by
 unfold appD at h ⊢
 split at h
 ·split at h
  ·refine ⟨h.1, ?_⟩
   replace h := h.2
   split at h
   ·exact ⟨h.1, srcD_mono (fun es h => ⟨h.1, hk _ h.2⟩) h.2⟩
   ·split at h
    ·exact ⟨h.1, h.2.imp (srcD_mono (fun es h => ⟨h.1, hk _ h.2⟩)) (eatD_mono (fun q o es h => ⟨h.1, hk _ h.2⟩))⟩
    ·exact h.elim
   ·split at h
    ·exact ⟨h.1, srcD_mono (fun es h => ⟨h.1, hk _ h.2⟩) h.2⟩
    ·exact h.elim
   ·split at h
    ·split at h
     ·exact ⟨h.1, srcD_mono (fun es h => ⟨h.1, hk _ h.2⟩) h.2⟩
     ·exact h.elim
    ·exact h.elim
   ·exact h.elim
  ·exact h.elim
 ·exact h.elim
theorem memD_mono {nm : Nat} {op : Op} {dst : Option Tmp} {K K' : St → Prop} (hk : ∀ T, K T → K' T) (h : memD tb nm S op dst K) : memD tb nm S op dst K' := by
 have val : valD tb S op (fun v => K (S.put dst v)) → valD tb S op (fun v => K' (S.put dst v)) := valD_mono fun v h => hk _ h
 cases op with
 | box t x =>
  simp only [memD] at h ⊢
  split at h
  ·exact ⟨h.1, h.2.imp (fun h => hk _ h) fun ⟨ws, h⟩ => ⟨ws, moveD_mono (fun _ _ h => ⟨h.1, hk _ h.2⟩) h⟩⟩
  ·exact h.elim
 | alloc t =>
  simp only [memD] at h ⊢
  split at h
  ·exact ⟨h.1, h.2.imp (fun h => hk _ h) fun ⟨ws, h⟩ => ⟨ws, hk _ h⟩⟩
  ·exact h.elim
 | store t x v =>
  simp only [memD] at h ⊢
  split at h
  ·exact ⟨h.1, storeD_mono' h.2 fun T h => hk _ h⟩
  ·exact h.elim
 | buildSlice t len parts =>
  simp only [memD] at h ⊢
  split at h
  ·split at h
   ·refine ⟨h.1, ?_⟩
    replace h := h.2
    split at h
    ·exact h.imp (fun h => deepCells_mono' rfl h fun T ds h => hk _ h) fun ⟨ws, h⟩ => ⟨ws, moveD_mono (fun _ _ h => ⟨h.1, hk _ h.2⟩) h⟩
    ·exact h.elim
   ·exact h.elim
  ·exact h.elim
 | makeSlice t l c =>
  simp only [memD] at h ⊢
  split at h
  ·split at h
   ·exact mapInt_mono (fun _ _ h => mapInt_mono (fun _ _ h => ⟨h.1, hk _ h.2⟩) h) h
   ·exact h.elim
  ·exact h.elim
 | call c =>
  simp only [memD] at h ⊢
  split at h
  ·exact appD_mono hk h
  ·exact callValD_mono (fun v h => hk _ h) h
 | convert s t x =>
  simp only [memD] at h ⊢
  split at h
  ·split at h
   ·exact ⟨h.1, hk _ h.2⟩
   ·exact h.elim
  ·exact h.elim
  ·split at h
   ·refine srcD_mono (fun es h => ?_) h
    obtain ⟨bs, h1, h2⟩ := h
    exact ⟨bs, h1, hk _ h2⟩
   ·exact h.elim
  ·exact val h
 | _ => exact val h
theorem opD_mono {nm : Nat} {op : Op} {dst : Option Tmp} {K K' : St → Prop} (hk : ∀ T, K T → K' T) (h : opD P tb nm S op dst K) : opD P tb nm S op dst K' := by
 unfold opD at h ⊢
 split at h
 ·split at h
  ·obtain ⟨ps, hks, bor, f, h1, h2, h⟩ := h
   refine ⟨ps, hks, bor, f, h1, h2, argSs_mono (fun args' h => rowsD_mono (fun Li h => ?_) h) h⟩
   obtain ⟨mv, cl, Post, hc, hcl, h⟩ := h
   refine ⟨mv, cl, Post, hc, hcl, fun res Lo hp => ?_⟩
   obtain ⟨g1, g3⟩ := h res Lo hp
   exact ⟨g1, hk _ g3⟩
  ·exact memD_mono hk h
 ·exact memD_mono hk h
theorem stepD_mono {i : Nat} {K K' : St → Prop} (hk : ∀ T, K T → K' T) (h : stepD P tb base ops i S K) : stepD P tb base ops i S K' := by
 unfold stepD at h ⊢
 split at h
 ·split at h
  ·exact opD_mono hk h
  ·split at h
   ·exact ⟨fun e => opD_mono hk (h.1 e), fun e => hk _ (h.2 e)⟩
   ·exact h.elim
 ·exact h.elim

def GD (P : Program) (tb : TypeId → Option TyI) (base : Nat) (ops : Array Oper) : Nat → List Nat → Array Bool → St → (St → Prop) → Prop
 | 0, _, listed, S, K => Region.ready .any ops listed = [] ∧ K S
 | n + 1, H, listed, S, K => (Region.ready .any ops listed = [] → K S) ∧ ∀ j ∈ Region.ready .any ops listed, stepD P tb base ops j S fun S' =>
   ∃ H', (∀ i ∈ H', i ∈ H) ∧ (∀ i ∈ H, i ∈ H' ∨ before ops i j = true) ∧ (∀ i ∈ H', recheck tb ops i S') ∧ GD P tb base ops n H' (listed.setIfInBounds j true) S' K

theorem GD.mono : ∀ {n : Nat} {H H2 : List Nat} {listed : Array Bool} {S : St} {K : St → Prop}, GD P tb base ops n H listed S K → (∀ x ∈ H2, x ∈ H) → GD P tb base ops n H2 listed S K
 | 0, _, _, _, _, _, h, _ => h
 |n + 1, H, H2, listed, S, K, h, hs => by
  refine ⟨h.1, fun j hj => stepD_mono (fun T h => ?_) (h.2 j hj)⟩
  obtain ⟨H', h1, h2, h3, h4⟩ := h
  refine ⟨H'.filter (fun x => H2.contains x), fun x hx => ?_, fun x hx => ?_, fun x hx => h3 x (List.mem_filter.1 hx).1, h4.mono fun x hx => (List.mem_filter.1 hx).1⟩
  ·simpa using (List.mem_filter.1 hx).2
  ·exact (h2 x (hs x hx)).imp (fun h => List.mem_filter.2 ⟨h, by simpa using hx⟩) id
theorem before_of_ready {i j : Nat} {listed : Array Bool} (hc : Closed ops listed) (hj : j ∈ Region.ready .any ops listed) (hi : listed.getD i true = false) : before ops i j = false := by
 cases hx : before ops i j with
 | false => rfl
 | true =>
  exfalso
  obtain ⟨x, hx2, hb⟩ := List.any_eq_true.1 hx
  obtain rfl := Nat.eq_of_beq_eq_true hb
  have h1 := ancS_listed hc 4000 (preds ops j) [] (preds_of_ready hj) (by simp) x hx2
  rcases Nat.lt_or_ge x listed.size with h' | h'
  ·simp [h'] at hi h1; rw [hi] at h1; cases h1
  ·simp [Array.getElem?_eq_none h'] at h1
theorem put_back {t : Tmp} {S1 S2 : St} (h : OffD t S1 S2) : S2.put (some t) (S1.T t) = S1 := by
 obtain ⟨T1, L1, m1⟩ := S1
 obtain ⟨T2, L2, m2⟩ := S2
 obtain ⟨h1, h2, h3⟩ := h
 simp only at h1 h2 h3
 subst h2
 subst h3
 simp only [St.put, St.mk.injEq, and_true]
 funext u
 by_cases e : u = t
 ·subst e; simp
 ·rw [upd_ne _ _ _ _ e, h1 u e]
theorem off_put (t : Tmp) (S : St) (v : SV) : OffD t (S.put (some t) v) S := ⟨fun u hu => by simp only [St.put]; exact upd_ne _ _ _ _ hu, rfl, rfl⟩
theorem recheck_off {i' : Nat} {t : Tmp} (h1 : ∀ o', ops[i']? = some o' → t ∉ o'.looksAt ops ∧ o'.dst ≠ some t) (ho : OffD t S S') (h : recheck tb ops i' S) : recheck tb ops i' S' := by
 obtain ⟨o, u, hi, hu, hs⟩ := h
 obtain ⟨g1, g2⟩ := h1 o hi
 refine ⟨o, u, hi, hu, stepV_off g1 ho (fun v hv => ?_) hs⟩
 rw [hv]; exact ho.1 u (by rintro rfl; exact g2 hu)

theorem take_first {i : Nat} {o : Oper} {t : Tmp} (hi : ops[i]? = some o) (ht : o.dst = some t) (hV : isV tb o.op = true) (hself : t ∉ o.looksAt ops) :
  ∀ (n : Nat) (H : List Nat) (listed : Array Bool) (S : St) (K : St → Prop), Closed ops listed → i ∈ Region.ready .any ops listed →
   (∀ j oj, ops[j]? = some oj → j ≠ i → listed.getD j true = false → before ops i j = false → o.apart ops oj = true) →
   (∀ i' ∈ H, ∀ o', ops[i']? = some o' → t ∉ o'.looksAt ops ∧ o'.dst ≠ some t) → (∀ i' ∈ H, recheck tb ops i' S) →
   stepV tb ops o S (fun v => GD P tb base ops n (i :: H) (listed.setIfInBounds i true) (S.put (some t) v) K) → GD P tb base ops (n + 1) H listed S K := by
 intro n
 induction n with
 | zero =>
  intro H listed S K hc hr hfree hH hre h
  refine ⟨fun h0 => (by rw [h0] at hr; cases hr), fun j hj => ?_⟩
  have key : j = i := by
   apply Classical.byContradiction
   intro hji
   have h1 := stepV_const (stepV_mono (K' := fun _ => Region.ready .any ops (listed.setIfInBounds i true) = []) (fun v h => h.1) h)
   have := ready_mono hj hji
   rw [h1] at this; cases this
  subst key
  rw [stepD_stepV hi hV]
  refine stepV_mono (fun v h => ?_) h
  rw [ht]
  exact ⟨H, fun _ h => h, fun _ h => .inl h, fun i' hi' => recheck_off (hH i' hi') (off_put t S v).symm (hre i' hi'), h.mono fun x hx => List.mem_cons_of_mem _ hx⟩
 | succ n ih =>
  intro H listed S K hc hr hfree hH hre h
  refine ⟨fun h0 => (by rw [h0] at hr; cases hr), fun j hj => ?_⟩
  by_cases hji : j = i
  ·subst hji
   rw [stepD_stepV hi hV]
   refine stepV_mono (fun v h => ?_) h
   rw [ht]
   exact ⟨H, fun _ h => h, fun _ h => .inl h, fun i' hi' => recheck_off (hH i' hi') (off_put t S v).symm (hre i' hi'), h.mono fun x hx => List.mem_cons_of_mem _ hx⟩
  ·have hun := (mem_ready.1 hr).1
   have hnb := before_of_ready hc hj hun
   obtain ⟨hjun, oj, hoj, hjall⟩ := mem_ready.1 hj
   have hap := hfree j oj hoj hji hjun hnb
   obtain ⟨ha1, ha2, ha3⟩ := Oper.apart_spec hap
   -- what j does behind i, it does without i
   have h1 : stepD P tb base ops j S (Off1 t fun S1 => ∃ H', (∀ x ∈ H', x ∈ i :: H) ∧ (∀ x ∈ i :: H, x ∈ H' ∨ before ops x j = true) ∧ (∀ x ∈ H', recheck tb ops x S1) ∧
     GD P tb base ops n H' ((listed.setIfInBounds i true).setIfInBounds j true) S1 K) := by
    refine stepV_const (o := o) (S := S) (tb := tb) (stepV_mono (fun v h => ?_) h)
    exact stepD_off hoj (ha1 t ht) (off_put t S v) (h.2 j (ready_mono hj hji))
   refine stepD_mono (fun S2 h2 => ?_) h1
   obtain ⟨S1, ⟨H'', g1, g2, g3, g4⟩, ho⟩ := h2
   have hiH : i ∈ H'' := (g2 i (List.mem_cons_self ..)).resolve_right (by rw [hnb]; simp)
   have hni : i ∉ H := fun hm => (hH i hm o hi).2 ht
   refine ⟨H''.filter (fun x => x != i), fun x hx => ?_, fun x hx => ?_, fun x hx => ?_, ?_⟩
   ·obtain ⟨h3, h4⟩ := List.mem_filter.1 hx
    exact (List.mem_cons.1 (g1 x h3)).resolve_left (by simpa using h4)
   ·exact (g2 x (List.mem_cons_of_mem _ hx)).imp (fun h => List.mem_filter.2 ⟨h, by simp; rintro rfl; exact hni hx⟩) id
   ·obtain ⟨h3, h4⟩ := List.mem_filter.1 hx
    have hxH : x ∈ H := (List.mem_cons.1 (g1 x h3)).resolve_left (by simpa using h4)
    exact recheck_off (hH x hxH) ho (g3 x h3)
   ·have hsub : ∀ x ∈ H''.filter (fun x => x != i), x ∈ H := fun x hx => by
     obtain ⟨h3, h4⟩ := List.mem_filter.1 hx
     exact (List.mem_cons.1 (g1 x h3)).resolve_left (by simpa using h4)
    refine ih _ _ _ _ (hc.set hj) (ready_mono hr (Ne.symm hji)) (fun k ok hk hki hun' hb => hfree k ok hk hki ?_ hb) (fun x hx => hH x (hsub x hx)) (fun x hx => recheck_off (hH x (hsub x hx)) ho (g3 x (List.mem_filter.1 hx).1)) ?_
    ·by_cases hjk : j = k
     ·subst hjk; exact hjun
     ·rw [getD_set_ne true hjk] at hun'; exact hun'
    ·obtain ⟨o', u, q1, q2, q3⟩ := g3 i hiH
     rw [hi] at q1; injection q1 with q1; subst q1
     rw [ht] at q2; injection q2 with q2; subst q2
     refine stepV_off hself ho (fun v hv => ?_) q3
     rw [hv, put_back ho]
     rw [Array.setIfInBounds_comm _ _ hji]
     refine g4.mono fun x hx => ?_
     rcases List.mem_cons.1 hx with rfl | hx
     ·exact hiH
     ·exact (List.mem_filter.1 hx).1

theorem stepV_det {o : Oper} {K : SV → Prop} (h : stepV tb ops o S K) : ∃ v, K v ∧ ∀ K' : SV → Prop, K' v → stepV tb ops o S K' := by
 simp only [stepV] at h ⊢
 split at h
 ·exact valX_det h
 ·rename_i j want hg
  split at h
  ·rename_i b hb
   by_cases e : b = want
   ·obtain ⟨v, h1, h2⟩ := valX_det (h.1 e)
    exact ⟨v, h1, fun K' h' => ⟨fun _ => h2 _ h', fun e' => absurd e e'⟩⟩
   ·exact ⟨_, h.2 e, fun K' h' => ⟨fun e' => absurd e' e, fun _ => h'⟩⟩
  ·exact h.elim

inductive PS where
 | done
 | v (i : Nat) (rest : PS)
 | x (i : Nat) (re : List Nat) (rest : PS)
 | or (a b : PS)
def PS.heads : PS → List Nat
 | .x i _ _ => [i]
 | .or a b => a.heads ++ b.heads
 | _ => []
def vOk (tb : TypeId → Option TyI) (ops : Array Oper) (H : List Nat) (listed : Array Bool) (i : Nat) : Bool :=
 match ops[i]? with
 |some o => (match o.dst with
  | some t => isV tb o.op && !(o.looksAt ops).contains t && (H.all fun i' => match ops[i']? with | some o' => !(o'.looksAt ops).contains t && o'.dst != some t | none => true) &&
    (Region.ready .any ops listed).contains i && ((List.range ops.size).all fun j => j == i || listed.getD j true || before ops i j || (match ops[j]? with | some oj => o.apart ops oj | none => true))
  | none => false)
 | none => false
def planOk (tb : TypeId → Option TyI) (ops : Array Oper) (top : Bool) (n : Nat) (H : List Nat) (listed : Array Bool) : PS → Bool
 | .done => top && n == 0 && (Region.ready .any ops listed).isEmpty
 | .v i rest => top && n != 0 && vOk tb ops H listed i && planOk tb ops true (n - 1) (i :: H) (listed.setIfInBounds i true) rest
 | .x i re rest => (!top || Region.ready .any ops listed == [i]) && n != 0 && re == H.filter (fun x => !before ops x i) && planOk tb ops true (n - 1) re (listed.setIfInBounds i true) rest
 | .or a b => (!top || Region.ready .any ops listed == a.heads ++ b.heads) && n != 0 && planOk tb ops false n H listed a && planOk tb ops false n H listed b
def planD (P : Program) (tb : TypeId → Option TyI) (base : Nat) (ops : Array Oper) : PS → St → (St → Prop) → Prop
 | .done, S, K => K S
 | .v i rest, S, K => stepD P tb base ops i S fun S' => planD P tb base ops rest S' K
 | .x i re rest, S, K => stepD P tb base ops i S fun S' => (∀ i' ∈ re, recheck tb ops i' S') ∧ planD P tb base ops rest S' K
 | .or a b, S, K => planD P tb base ops a S K ∧ planD P tb base ops b S K

theorem vOk_spec {H : List Nat} {listed : Array Bool} {i : Nat} (h : vOk tb ops H listed i = true) : ∃ o t, ops[i]? = some o ∧ o.dst = some t ∧ isV tb o.op = true ∧ t ∉ o.looksAt ops ∧
  (∀ i' ∈ H, ∀ o', ops[i']? = some o' → t ∉ o'.looksAt ops ∧ o'.dst ≠ some t) ∧ i ∈ Region.ready .any ops listed ∧
  (∀ j oj, ops[j]? = some oj → j ≠ i → listed.getD j true = false → before ops i j = false → o.apart ops oj = true) := by
 unfold vOk at h
 split at h
 ·rename_i o ho
  split at h
  ·rename_i t ht
   simp only [Bool.and_eq_true, Bool.not_eq_true', List.all_eq_true] at h
   obtain ⟨⟨⟨⟨h1, h2⟩, h3⟩, h4⟩, h5⟩ := h
   refine ⟨o, t, ho, ht, h1, by simpa using h2, fun i' hi' o' ho' => ?_, by simpa using h4, fun j oj hj hji hl hb => ?_⟩
   ·have := h3 i' hi'
    rw [ho'] at this
    simpa using this
   ·have := h5 j (List.mem_range.2 (Array.getElem?_eq_some_iff.1 hj).1)
    simpa [hji, hl, hb, hj] using this
  ·simp at h
 ·simp at h

theorem plan_ok : ∀ (plan : PS) (n : Nat) (H : List Nat) (listed : Array Bool) (S : St) (K : St → Prop), Closed ops listed → (∀ i ∈ H, recheck tb ops i S) → planD P tb base ops plan S K →
  (planOk tb ops true n H listed plan = true → GD P tb base ops n H listed S K) ∧
  (planOk tb ops false n H listed plan = true → (∀ j ∈ plan.heads, j ∈ Region.ready .any ops listed) → ∃ m, n = m + 1 ∧ ∀ j ∈ plan.heads, stepD P tb base ops j S fun S' =>
   ∃ H', (∀ i ∈ H', i ∈ H) ∧ (∀ i ∈ H, i ∈ H' ∨ before ops i j = true) ∧ (∀ i ∈ H', recheck tb ops i S') ∧ GD P tb base ops m H' (listed.setIfInBounds j true) S' K)
 |.done, n, H, listed, S, K, hc, _, h => by
  refine ⟨fun hp => ?_, fun hp _ => by simp [planOk] at hp⟩
  simp only [planOk, Bool.true_and, Bool.and_eq_true, beq_iff_eq, List.isEmpty_iff] at hp
  obtain ⟨rfl, hp⟩ := hp
  exact ⟨hp, h⟩
 | .v i rest, 0, H, listed, S, K, hc, hre, h => ⟨fun hp => by simp [planOk] at hp, fun hp _ => by simp [planOk] at hp⟩
 |.v i rest, n + 1, H, listed, S, K, hc, hre, h => by
  refine ⟨fun hp => ?_, fun hp _ => by simp [planOk] at hp⟩
  simp only [planOk, Bool.true_and, Bool.and_eq_true, Nat.add_sub_cancel] at hp
  obtain ⟨⟨_, hv⟩, hp⟩ := hp
  obtain ⟨o, t, hi, ht, hV, hself, hH, hr, hfree⟩ := vOk_spec hv
  refine take_first hi ht hV hself n H listed S K hc hr hfree hH hre ?_
  simp only [planD] at h
  rw [stepD_stepV hi hV, ht] at h
  obtain ⟨v, h1, h2⟩ := stepV_det h
  refine h2 _ ((plan_ok rest n _ _ _ _ (hc.set hr) (fun x hx => ?_) h1).1 hp)
  rcases List.mem_cons.1 hx with rfl | hx
  ·refine ⟨o, t, hi, ht, stepV_off hself (off_put t S v).symm (fun v' hv' => hv') (h2 _ ?_)⟩
   simp [St.put]
  ·exact recheck_off (hH x hx) (off_put t S v).symm (hre x hx)
 | .x i re rest, 0, H, listed, S, K, hc, hre, h => ⟨fun hp => by simp [planOk] at hp, fun hp _ => by simp [planOk] at hp⟩
 |.x i re rest, n + 1, H, listed, S, K, hc, hre, h => by
  have key : i ∈ Region.ready .any ops listed → re = H.filter (fun x => !before ops x i) → planOk tb ops true n re (listed.setIfInBounds i true) rest = true → stepD P tb base ops i S fun S' =>
    ∃ H', (∀ x ∈ H', x ∈ H) ∧ (∀ x ∈ H, x ∈ H' ∨ before ops x i = true) ∧ (∀ x ∈ H', recheck tb ops x S') ∧ GD P tb base ops n H' (listed.setIfInBounds i true) S' K := fun hr h2 h3 => by
   simp only [planD] at h
   refine stepD_mono (fun S' h => ?_) h
   refine ⟨re, fun x hx => ?_, fun x hx => ?_, h.1, (plan_ok rest n _ _ _ _ (hc.set hr) h.1 h.2).1 h3⟩
   ·rw [h2] at hx; exact (List.mem_filter.1 hx).1
   ·rw [h2, List.mem_filter]
    cases hb : before ops x i <;> simp [hx]
  refine ⟨fun hp => ?_, fun hp hrd => ?_⟩
  ·simp only [planOk, Bool.not_true, Bool.false_or, Bool.and_eq_true, beq_iff_eq, Nat.add_sub_cancel] at hp
   obtain ⟨⟨⟨h1, _⟩, h2⟩, h3⟩ := hp
   refine ⟨fun h0 => (by rw [h0] at h1; simp at h1), fun j hj => ?_⟩
   have hj' := hj
   rw [h1] at hj
   simp at hj; subst hj
   exact key hj' h2 h3
  ·simp only [planOk, Bool.not_false, Bool.true_or, Bool.true_and, Bool.and_eq_true, beq_iff_eq, Nat.add_sub_cancel] at hp
   obtain ⟨⟨_, h2⟩, h3⟩ := hp
   refine ⟨n, rfl, fun j hj => ?_⟩
   have hj' := hrd j hj
   simp [PS.heads] at hj; subst hj
   exact key hj' h2 h3
 |.or a b, n, H, listed, S, K, hc, hre, h => by
  have key : (∀ j ∈ a.heads ++ b.heads, j ∈ Region.ready .any ops listed) → planOk tb ops false n H listed a = true → planOk tb ops false n H listed b = true → ∃ m, n = m + 1 ∧ ∀ j ∈ a.heads ++ b.heads, stepD P tb base ops j S fun S' =>
    ∃ H', (∀ i ∈ H', i ∈ H) ∧ (∀ i ∈ H, i ∈ H' ∨ before ops i j = true) ∧ (∀ i ∈ H', recheck tb ops i S') ∧ GD P tb base ops m H' (listed.setIfInBounds j true) S' K := fun hrd ha hb => by
   obtain ⟨m, rfl, h1⟩ := (plan_ok a n H listed S K hc hre h.1).2 ha fun j hj => hrd j (List.mem_append_left _ hj)
   obtain ⟨m', hm, h2⟩ := (plan_ok b _ H listed S K hc hre h.2).2 hb fun j hj => hrd j (List.mem_append_right _ hj)
   obtain rfl : m' = m := by omega
   exact ⟨m', rfl, fun j hj => (List.mem_append.1 hj).elim (h1 j) (h2 j)⟩
  refine ⟨fun hp => ?_, fun hp hrd => ?_⟩
  ·simp only [planOk, Bool.not_true, Bool.false_or, Bool.and_eq_true, beq_iff_eq] at hp
   obtain ⟨⟨⟨h1, h0⟩, h2⟩, h3⟩ := hp
   obtain ⟨m, rfl, h4⟩ := key (fun j hj => by rw [h1]; exact hj) h2 h3
   refine ⟨fun h0 => ?_, fun j hj => h4 j (by rw [← h1]; exact hj)⟩
   have hne : ∀ (p : PS), planOk tb ops false (m + 1) H listed p = true → p.heads ≠ [] := by
    intro p
    induction p with
    | done => intro hp; simp [planOk] at hp
    | v i r _ => intro hp; simp [planOk] at hp
    | x i re r _ => intro _; simp [PS.heads]
    | or a b ih1 ih2 =>
     intro hp
     simp only [planOk, Bool.not_false, Bool.true_or, Bool.true_and, Bool.and_eq_true] at hp
     simp [PS.heads, ih1 hp.1.2]
   rw [h0] at h1
   have := (List.append_eq_nil_iff.1 h1.symm).1
   exact absurd this (hne a h2)
  ·simp only [planOk, Bool.not_false, Bool.true_or, Bool.true_and, Bool.and_eq_true] at hp
   exact key hrd hp.1.2 hp.2
end

section
variable {P : Program} (tb : Tab P) {w0 : World} {M : Rows0} {N : Nat} {V0 : View} {S : St} {a : Act} {w : World}

theorem stepD_ok {ops : Array Oper} (hd : ∀ o ∈ ops, ∀ t, o.dst = some t → t < N) {base i : Nat} {Q : Exit → Act → World → Prop} {K : St → Prop} (hs : Sat w0 M N V0 S a w) (h : stepD P tb.tb base ops i S K) :
  wpOp P ops Q i (fun a' w' => ∃ S', K S' ∧ Sat w0 M N V0 S' a' w') a w := by
 unfold stepD at h
 split at h
 ·rename_i o ho
  have hdo : ∀ t, o.dst = some t → t < N := hd o (Array.mem_of_getElem? ho)
  unfold wpOp
  simp only [ho]
  split at h
  ·rename_i hg
   have : Region.wanted o (yielded ops a.tmps) = true := by simp [Region.wanted, hg]
   rw [if_pos this]
   exact .inl (opD_ok tb hs hdo h)
  ·rename_i j want hg
   split at h
   ·rename_i b hb
    unfold guardOf at hb
    split at hb
    ·rename_i t ht
     split at hb
     ·rename_i b' hb'
      simp at hb; subst hb
      have hsv : a.tmps.getD t undef = .bool b' := by
       obtain ⟨V, bs, _, _, hs1⟩ := hs
       have := hs1.tmps t; rw [hb'] at this; exact vr_sc this
      have hy : yielded ops a.tmps j = some b' := by
       unfold yielded
       rw [ht]
       have : a.tmps[t]? = some (.bool b') := by
        rw [Array.getD_eq_getD_getElem?] at hsv
        cases h5 : a.tmps[t]? with
        | none => rw [h5] at hsv; simp [undef] at hsv
        | some u => rw [h5] at hsv; simp at hsv; rw [hsv]
       simp [this]
      have hw : Region.wanted o (yielded ops a.tmps) = (some b' == some want) := by simp [Region.wanted, hg, hy]
      by_cases hbw : b' = want
      ·subst hbw
       rw [if_pos (by rw [hw]; simp)]
       exact .inl (opD_ok tb hs hdo (h.1 rfl))
      ·rw [if_neg (by rw [hw]; simp [hbw])]
       obtain ⟨V, bs, h0, h1, hs1⟩ := hs
       exact ⟨_, h.2 hbw, V, bs, h0, h1, hs1.put hdo skipped⟩
     ·rename_i hb'
      simp at hb; subst hb
      have hsv : a.tmps.getD t undef = undef := by
       obtain ⟨V, bs, _, _, hs1⟩ := hs
       have := hs1.tmps t; rw [hb'] at this; exact vr_skip this
      have hw : Region.wanted o (yielded ops a.tmps) = false := by simp [Region.wanted, hg, yielded_skip ht hsv]
      rw [if_neg (by rw [hw]; simp)]
      obtain ⟨V, bs, h0, h1, hs1⟩ := hs
      exact ⟨_, h.2 (by simp), V, bs, h0, h1, hs1.put hdo skipped⟩
     ·simp at hb
    ·simp at hb
   ·exact h.elim
 ·exact h.elim

theorem GD_ok {ops : Array Oper} (hd : ∀ o ∈ ops, ∀ t, o.dst = some t → t < N) {base : Nat} {Q : Exit → Act → World → Prop} {K : St → Prop} (hQ : ∀ S a w, K S → Sat w0 M N V0 S a w → Q .normal a w) :
  ∀ (n : Nat) (H : List Nat) (listed : Array Bool) (S : St) (a : Act) (w : World), Sat w0 M N V0 S a w → GD P tb.tb base ops n H listed S K → wpAny P .any ops Q n listed a w
 | 0, _, _, S, a, w, hs, h => ⟨h.1, hQ S a w h.2 hs⟩
 |n + 1, H, listed, S, a, w, hs, h => by
  refine ⟨fun h0 => hQ S a w (h.1 h0) hs, fun i hi => wpOp_mono ?_ (stepD_ok tb hd hs (h.2 i hi))⟩
  rintro a' w' ⟨S', ⟨H', _, _, _, h1⟩, h2⟩
  exact GD_ok hd hQ n H' _ S' a' w' h2 h1

theorem drawn_ok (hm : P.follows .mixedOrders = true) {id : Nat} {ops : Array Oper} (hd : ∀ o ∈ ops, ∀ t, o.dst = some t → t < N) {base : Nat} {Q : Exit → Act → World → Prop} {K : St → Prop}
  (hQ : ∀ S a w, K S → Sat w0 M N V0 S a w → Q .normal a w) (plan : PS) (hp : planOk tb.tb ops true ops.size [] (Array.replicate ops.size false) plan = true) (hs : Sat w0 M N V0 S a w) (h : planD P tb.tb base ops plan S K) :
  (Code.region id ops true).wp P Q a w := by
 refine wp_region_any hm ?_
 refine GD_ok (base := base) (K := K) tb hd hQ _ [] _ S _ _ ?_ ((plan_ok plan _ _ _ _ _ (fun k hk => by simp [Array.getD_eq_getD_getElem?, Array.getElem?_replicate] at hk; split at hk <;> simp at hk) (by simp) h).1 hp)
 obtain ⟨V, bs, h0, h1, hs1⟩ := hs
 exact ⟨V, bs, h0, h1, hs1.drew _⟩
end
end Go.Proofs.Ytpdjehnlejjfmaa.D
/- A piece of code; a function. -/
namespace Go.Proofs.Ytpdjehnlejjfmaa.D
open Go.RowKit

def exitK (K : St → Prop) (Q : Exit → St → Prop) : Exit → St → Prop
 | .normal, S => K S
 | e, S => Q e S
def blockK (id : Nat) (Q : Exit → St → Prop) : Exit → St → Prop
 | .exit i, S => if i = id then Q .normal S else Q (.exit i) S
 | e, S => Q e S

def Le (S S' : St) : Prop := ∀ w0 M N V0 a w, Sat w0 M N V0 S a w → Sat w0 M N V0 S' a w
theorem Le.refl (S : St) : Le S S := fun _ _ _ _ _ _ h => h

def wpD (P : Program) (tb : TypeId → Option TyI) : Code → St → (Exit → St → Prop) → Prop
 | .skip, S, Q => Q .normal S
 | .seq x y, S, Q => ∃ R : St → Prop, wpD P tb x S (exitK R Q) ∧ ∀ S', R S' → ∃ S1, Le S' S1 ∧ wpD P tb y S1 Q
 | .cond c x y, S, Q =>
  match S.ev c with
  | .one (.dv (.sc (.bool b))) => guardD b (wpD P tb x S Q) (wpD P tb y S Q)
  | _ => False
 | .block id c, S, Q => wpD P tb c S (blockK id Q)
 | .exit id, S, Q => Q (.exit id) S
 | .ret, S, Q => Q .ret S
 | .region id ops false, S, Q => opsD P tb (4096 * (id + 1)) ops.toList 0 ops.toList S (Q .normal)
 | .region id ops true, S, Q => (∃ plan, planOk tb ops true ops.size [] (Array.replicate ops.size false) plan = true ∧ planD P tb (4096 * (id + 1)) ops plan S (Q .normal)) ∨
   GD P tb (4096 * (id + 1)) ops ops.size [] (Array.replicate ops.size false) S (Q .normal)
 | .loop c, S, Q => ∃ (I : Nat → St → Prop), (∃ n S0, Le S S0 ∧ I n S0) ∧ ∀ m S', I m S' → wpD P tb c S' (exitK (fun S'' => ∃ k S3, k < m ∧ Le S'' S3 ∧ I k S3) Q)
 | _, _, _ => False

def slotsOk (N : Nat) : Code → Bool
 | .seq x y => slotsOk N x && slotsOk N y
 | .cond _ x y => slotsOk N x && slotsOk N y
 | .block _ c => slotsOk N c
 | .loop c => slotsOk N c
 | .region _ ops _ => ops.all fun o => match o.dst with | some t => t < N | none => true
 | _ => true

section
variable {P : Program} (tb : Tab P) {w0 : World} {M : Rows0} {N : Nat} {V0 : View}

def lift (w0 : World) (M : Rows0) (N : Nat) (V0 : View) (Q : Exit → St → Prop) : Exit → Act → World → Prop := fun e a w => ∃ S, Q e S ∧ Sat w0 M N V0 S a w

theorem wp_loopJ {P : Program} {Q : Exit → Act → World → Prop} {c : Code} (J : Nat → Act → World → Prop)
  (round : ∀ n a w, J n a w → c.wp P (Exit.then (fun a' w' => ∃ m, m < n ∧ J m a' w') Q) a w) : ∀ (n : Nat) (a : Act) (w : World), J n a w → (Code.loop c).wp P Q a w := by
 intro n a w h0 b k cs
 have key : ∀ n a w, J n a w → ∃ e a' w', Q e a' w' ∧ Arrives P (lone (b.at a (.code c :: .inLoop c :: k)) cs w) b k cs e a' w' := by
  intro n
  induction n using Nat.strongRecOn with
  | _ n ih =>
   intro a w hJ
   obtain ⟨e, a₁, w₁, hq, harr⟩ := round n a w hJ b (.inLoop c :: k) cs
   cases e with
   | normal =>
    obtain ⟨m, hlt, hJ₁⟩ := hq
    obtain ⟨e₂, a₂, w₂, hq₂, harr₂⟩ := ih m hlt a₁ w₁ hJ₁
    exact ⟨e₂, a₂, w₂, hq₂, .of_steps (Steps.trans harr (.one step_inLoop)) harr₂⟩
   | exit id => exact ⟨_, a₁, w₁, hq, .pass (x := .inLoop c) rfl (fun _ _ => .inl (by simp)) harr⟩
   | goto l => exact ⟨_, a₁, w₁, hq, .pass (x := .inLoop c) rfl (fun _ _ => .inl (by simp)) harr⟩
   | ret => exact ⟨_, a₁, w₁, hq, .pass (x := .inLoop c) rfl (fun _ _ => .inl (by simp)) harr⟩
   | panic ch => exact ⟨_, a₁, w₁, hq, .pass (x := .inLoop c) rfl (fun _ _ => .inl (by simp)) harr⟩
   | outgrown => exact ⟨_, a₁, w₁, hq, .pass (x := .inLoop c) rfl (fun _ _ => .inl (by simp)) harr⟩
 obtain ⟨e, a', w', hq, harr⟩ := key n a w h0
 exact ⟨e, a', w', hq, .of_steps (.one step_loop) harr⟩

theorem wpD_ok : ∀ (c : Code) (S : St) (a : Act) (w : World) (Q : Exit → St → Prop), slotsOk N c = true → wpD P tb.tb c S Q → Sat w0 M N V0 S a w → c.wp P (lift w0 M N V0 Q) a w
 | .skip, S, a, w, Q, _, h, hs => wp_skip ⟨S, h, hs⟩
 |.seq x y, S, a, w, Q, hok, h, hs => by
  simp only [slotsOk, Bool.and_eq_true] at hok
  obtain ⟨R, h, hR⟩ := h
  refine wp_seq (wp_mono (wpD_ok x S a w _ hok.1 h hs) ?_)
  rintro e a' w' ⟨S', h1, h2⟩
  cases e with
  | normal =>
   obtain ⟨S1, hle, h3⟩ := hR S' h1
   exact wpD_ok y S1 a' w' Q hok.2 h3 (hle _ _ _ _ _ _ h2)
  | _ => exact ⟨S', h1, h2⟩
 |.cond c x y, S, a, w, Q, hok, h, hs => by
  simp only [slotsOk, Bool.and_eq_true] at hok
  simp only [wpD] at h
  split at h
  ·rename_i b hb
   have hv : a.eval c = .bool b := by
    obtain ⟨V, bs, _, _, hs1⟩ := hs
    have := ev_ok hs1.tmps c; rw [hb] at this; exact vr_sc this
   exact wp_cond_split hv (fun e => wpD_ok x S a w Q hok.1 (h.1 e) hs) (fun e => wpD_ok y S a w Q hok.2 (h.2 e) hs)
  ·exact h.elim
 |.block id c, S, a, w, Q, hok, h, hs => by
  refine wp_block (wp_mono (wpD_ok c S a w _ hok h hs) ?_)
  rintro e a' w' ⟨S', h1, h2⟩
  cases e with
  | exit i =>
   simp only [blockK] at h1
   simp only [Exit.inBlock]
   split at h1
   ·rename_i e; rw [if_pos e]; exact ⟨S', h1, h2⟩
   ·rename_i e; rw [if_neg e]; exact ⟨S', h1, h2⟩
  | _ => exact ⟨S', h1, h2⟩
 | .exit id, S, a, w, Q, _, h, hs => wp_exit ⟨S, h, hs⟩
 | .ret, S, a, w, Q, _, h, hs => wp_ret ⟨S, h, hs⟩
 |.region id ops false, S, a, w, Q, hok, h, hs => by
  refine wp_region ?_
  have hd : ∀ o ∈ ops, ∀ t, o.dst = some t → t < N := by
   intro o ho t ht
   simp only [slotsOk, Array.all_eq_true_iff_forall_mem] at hok
   have := hok o ho
   rw [ht] at this; simpa using this
  have := opsD_ok (N := N) (M := M) (w0 := w0) (V0 := V0) tb (ops := ops) hd (base := 4096 * (id + 1)) (Q := lift w0 M N V0 Q) (K := Q .normal) (fun S a w h1 h2 => ⟨S, h1, h2⟩) ops.toList 0 S a w (by simp) hs h
  rw [List.range_eq_range']
  simpa using this
 |.loop c, S, a, w, Q, hok, h, hs => by
  obtain ⟨I, ⟨n, S0, hle, hI⟩, hround⟩ := h
  refine wp_loopJ (fun n a w => ∃ S, I n S ∧ Sat w0 M N V0 S a w) ?_ n a w ⟨S0, hI, hle _ _ _ _ _ _ hs⟩
  rintro m a' w' ⟨S', h1, h2⟩
  refine wp_mono (wpD_ok c S' a' w' _ hok (hround m S' h1) h2) ?_
  rintro e a2 w2 ⟨S2, h3, h4⟩
  cases e with
  | normal => obtain ⟨k, S3, hk, hle3, h5⟩ := h3; exact ⟨k, hk, S3, h5, hle3 _ _ _ _ _ _ h4⟩
  | _ => exact ⟨S2, h3, h4⟩
 |.region id ops true, S, a, w, Q, hok, h, hs => by
  have hd : ∀ o ∈ ops, ∀ t, o.dst = some t → t < N := by
   intro o ho t ht
   simp only [slotsOk, Array.all_eq_true_iff_forall_mem] at hok
   have := hok o ho
   rw [ht] at this; simpa using this
  rcases h with ⟨plan, hp, h⟩ | h
  ·exact drawn_ok (N := N) (M := M) (w0 := w0) (V0 := V0) tb tb.mixed hd (Q := lift w0 M N V0 Q) (K := Q .normal) (fun S a w h1 h2 => ⟨S, h1, h2⟩) plan hp hs h
  ·refine wp_region_any tb.mixed ?_
   refine GD_ok (N := N) (M := M) (w0 := w0) (V0 := V0) tb hd (Q := lift w0 M N V0 Q) (K := Q .normal) (fun S a w h1 h2 => ⟨S, h1, h2⟩) _ [] _ S _ _ ?_ h
   obtain ⟨V, bs, h0, h1, hs1⟩ := hs
   exact ⟨V, bs, h0, h1, hs1.drew _⟩
 | .rangeFunc .., _, _, _, _, _, h, _ => h.elim
 | .scope _, _, _, _, _, _, h, _ => h.elim
 | .label _, _, _, _, _, _, h, _ => h.elim
 | .goto _, _, _, _, _, _, h, _ => h.elim
 | .refuse _, _, _, _, _, _, h, _ => h.elim

def resD (tb : TypeId → Option TyI) (S : St) : List ResultVar → (List SV → Prop) → Prop
 | [], K => K []
 | .tmp t :: rs, K => resD tb S rs fun vs => K (S.T t :: vs)
 | .cell t ty :: rs, K =>
  match tb ty, S.T t with
  | some i, .one c => (match ptrCells S c with | some (cs, o) => selD i cs o fun v => resD tb S rs fun vs => K (v :: vs) | none => False)
  | _, _ => False
def pairS : SV → Option (Bool × List CV) | .one c => some (false, [c]) | .agg cs => some (true, cs) | .tup _ => none | .arr ds => some (true, ds.map .dv)
def pairsS : List SV → Option (List (Bool × List CV))
 | [] => some []
 | v :: vs => match pairS v, pairsS vs with | some p, some ps => some (p :: ps) | _, _ => none
def joinD (vs : List SV) (K : SV → Prop) : Prop :=
 match vs with
 | [v] => K v
 | vs => match pairsS vs with | some ps => K (.tup ps) | none => False
def argPs (S : St) (out : List Nm) : List (Bool × List CV) → (List (Bool × List CV) → Prop) → Prop
 | [], K => K []
 | (b, cs) :: ps, K => argCs true S out cs fun cs' => argPs S out ps fun ps' => K ((b, cs') :: ps')
def argR (S : St) (out : List Nm) (v : SV) (K : SV → Prop) : Prop :=
 match v with
 | .one c => argC true S out c fun c' => K (.one c')
 | .agg cs => argCs true S out cs fun cs' => K (.agg cs')
 | .arr ds => K (.arr ds)
 | .tup ps => argPs S out ps fun ps' => K (.tup ps')
def flatEs (es : List (List DV)) : Prop := ∀ e ∈ es, ∀ d ∈ e, flatD d = true
def borN (ps : List Nm) (c : CV) : Prop := match c with | .os p _ _ _ => mapN ps p ≠ none ∨ newN p.top | .ep p _ _ _ => mapN ps p ≠ none | _ => True
def borS (ps : List Nm) : SV → Prop
 | .one c => borN ps c
 | .agg cs => ∀ c ∈ cs, borN ps c
 | .arr _ => True
 | .tup qs => ∀ p ∈ qs, ∀ c ∈ p.2, borN ps c
def cleanC (S : St) (out : List Nm) : CV → Prop
 | .dv d => flatD d = true
 | .dp _ _ => False
 | .os p _ _ _ => mapN out p ≠ none ∨ (match S.Lx p with | some (_, es) => flatEs es | none => True)
 | _ => True
def cleanS (S : St) (out : List Nm) : SV → Prop
 | .one c => cleanC S out c
 | .agg cs => ∀ c ∈ cs, cleanC S out c
 | .arr ds => ∀ d ∈ ds, flatD d = true
 | .tup ps => ∀ p ∈ ps, ∀ c ∈ p.2, cleanC S out c
def cleanR (S : St) (out : List Nm) : Row → Prop
 | .box cs => ∀ c ∈ cs, cleanC S out c
 | .own _ es => flatEs es
def wkC (c c' : CV) : Prop := c' = c ∨ (c = .nil ∧ (c' = .dv (.sl []) ∨ ∃ p k, c' = .os p k 0 0))
def wkCs : List CV → List CV → Prop
 | [], [] => True
 | c :: cs, c' :: cs' => wkC c c' ∧ wkCs cs cs'
 | _, _ => False
def wkPs : List (Bool × List CV) → List (Bool × List CV) → Prop
 | [], [] => True
 | (b, cs) :: ps, (b', cs') :: ps' => (b = b' ∧ wkCs cs cs') ∧ wkPs ps ps'
 | _, _ => False
def wkS : SV → SV → Prop
 | .one c, .one c' => wkC c c'
 | .agg cs, .agg cs' => wkCs cs cs'
 | .arr ds, .arr ds' => ds = ds'
 | .tup ps, .tup ps' => wkPs ps ps'
 | _, _ => False
theorem wkC_ok {V : View} {bs : Loc} {c c' : CV} {v : Value} (h : CR V bs c v) (hw : wkC c c') : CR V bs c' v := by
 rcases hw with rfl | ⟨rfl, rfl | ⟨p, k, rfl⟩⟩
 ·exact h
 ·cases h; exact .dv (.nil _ _)
 ·cases h; exact .oszero
theorem wkCs_ok {V : View} {bs : Loc} {cs : List CV} {vs : List Value} (h : CRs V bs cs vs) : ∀ {cs' : List CV}, wkCs cs cs' → CRs V bs cs' vs := by
 induction h with
 |nil => intro cs' hw; cases cs' with
  | nil => exact .nil
  | cons => exact hw.elim
 |cons h _ ih => intro cs' hw; cases cs' with
  | nil => exact hw.elim
  | cons c' cs' => exact .cons (wkC_ok h hw.1) (ih hw.2)
theorem wkPs_ok {V : View} {bs : Loc} : ∀ {ps ps' : List (Bool × List CV)} {vs : List Value}, ps.length = vs.length →
  (∀ (i : Nat) b cs u, ps[i]? = some (b, cs) → vs[i]? = some u → (b = true ∧ ∃ us, u = .agg us.toArray ∧ CRs V bs cs us) ∨ (b = false ∧ ∃ c, cs = [c] ∧ CR V bs c u)) → wkPs ps ps' →
  ps'.length = vs.length ∧ ∀ (i : Nat) b cs u, ps'[i]? = some (b, cs) → vs[i]? = some u → (b = true ∧ ∃ us, u = .agg us.toArray ∧ CRs V bs cs us) ∨ (b = false ∧ ∃ c, cs = [c] ∧ CR V bs c u)
 | [], [], vs, hl, hr, _ => ⟨hl, fun i b cs u h => by simp at h⟩
 | (b, cs) :: ps, (b', cs') :: ps', [], hl, hr, hw => by simp at hl
 |(b, cs) :: ps, (b', cs') :: ps', v :: vs, hl, hr, hw => by
  obtain ⟨⟨rfl, h1⟩, h2⟩ := hw
  obtain ⟨h3, h4⟩ := wkPs_ok (ps := ps) (ps' := ps') (vs := vs) (by simpa using hl) (fun i b cs u g1 g2 => hr (i + 1) b cs u (by simpa using g1) (by simpa using g2)) h2
  refine ⟨by simp [h3], fun i b2 cs2 u g1 g2 => ?_⟩
  cases i with
  | zero =>
   simp at g1 g2; obtain ⟨rfl, rfl⟩ := g1; subst g2
   rcases hr 0 b cs v rfl rfl with ⟨e, us, e2, r⟩ | ⟨e, c, e2, r⟩
   ·exact .inl ⟨e, us, e2, wkCs_ok r h1⟩
   ·subst e2
    cases cs' with
    | nil => exact h1.elim
    |cons c' cs' => cases cs' with
     | nil => exact .inr ⟨e, c', rfl, wkC_ok r h1.1⟩
     | cons => exact h1.2.elim
  | succ i => exact h4 i b2 cs2 u (by simpa using g1) (by simpa using g2)
 | [], _ :: _, _, _, _, hw => hw.elim
 | _ :: _, [], _, _, _, hw => by simp [wkPs] at hw
theorem wkS_ok {V : View} {bs : Loc} {sv sv' : SV} {v : Value} (h : VR V bs sv v) (hw : wkS sv sv') : VR V bs sv' v := by
 cases h with
 |one h => cases sv' with
  | one c' => exact .one (wkC_ok h hw)
  | _ => exact hw.elim
 |agg h => cases sv' with
  | agg c' => exact .agg (wkCs_ok h hw)
  | _ => exact hw.elim
 |arr h => cases sv' with
  | arr ds' => obtain rfl : _ = ds' := hw; exact .arr h
  | _ => exact hw.elim
 |tup hl hr => cases sv' with
  | tup ps' => exact .tup (wkPs_ok hl hr hw).1 (wkPs_ok hl hr hw).2
  | _ => exact hw.elim
def St.empties (S : St) : List (Nat × Nat) → St
 | [] => S
 | (p, k) :: zs => St.empties ({ S with L := upd S.L p (some (.own k [])) } : St) zs
def emptiesOk (S : St) : List (Nat × Nat) → Prop
 | [] => True
 | (p, k) :: zs => (S.L p = none ∧ 1000 ≤ p) ∧ emptiesOk ({ S with L := upd S.L p (some (.own k [])) } : St) zs
theorem Sat1.empties {w0 : World} {M : Rows0} {N : Nat} {V : View} {bs : Loc} {a : Act} {w : World} : ∀ {zs : List (Nat × Nat)} {S : St}, Sat1 w0 M N V bs S a w → emptiesOk S zs → Sat1 w0 M N V bs (S.empties zs) a w
 | [], _, h, _ => h
 | (p, k) :: zs, S, h, ho => Sat1.empties (S := { S with L := upd S.L p (some (.own k [])) }) (h.empty ho.1.1 ho.1.2 k) ho.2
def finD (S : St) (sv : SV) (n : Nat) (mv : List Nat) (cl : Bool) (Post : SV → List Row → Prop) : Prop :=
 ∃ (zs : List (Nat × Nat)) (sv' : SV) (out : List Nat), (emptiesOk S zs ∧ wkS sv sv' ∧ ∀ p ∈ (S.empties zs).mv, p < n → p ∈ mv) ∧ (out.Nodup ∧ out.take n = List.range n ∧ ∀ p ∈ out.drop n, newN p) ∧
  (cl = true → cleanS (S.empties zs) (out.map .v) sv' ∧ ∀ p ∈ out, ∀ r, (S.empties zs).L p = some r → cleanR (S.empties zs) (out.map .v) r) ∧
  (borS (out.map .v) sv' ∧ ∀ p ∈ out, ∀ cs, (S.empties zs).L p = some (.box cs) → ∀ c ∈ cs, borN (out.map .v) c) ∧
  argR (S.empties zs) (out.map .v) sv' fun res => rowsD true (S.empties zs) (out.map .v) (out.map .v) fun Lo => Post res Lo
def retD (tb : TypeId → Option TyI) (rs : List ResultVar) (n : Nat) (mv : List Nat) (cl : Bool) (Post : SV → List Row → Prop) : Exit → St → Prop
 | .normal, S => resD tb S rs fun vs => joinD vs fun sv => finD S sv n mv cl Post
 | .ret, S => resD tb S rs fun vs => joinD vs fun sv => finD S sv n mv cl Post
 | _, _ => False
end
end Go.Proofs.Ytpdjehnlejjfmaa.D
