/- A call, from the caller's side. -/
import Derived.Test.YtoklfidamhigcaaDP
namespace Go.Proofs.Ytoklfidamhigcaa.D
open Go.RowKit

def setRows (ps : List Nat) (nm : Nat) : Nat → List Row → (Nat → Option Row) → Nat → Option Row
  | _, [], L => L
  | i, r :: rs, L => setRows ps nm (i + 1) rs (upd L (backN ps nm i) (some (mapR (backC ps nm) r)))

def killAll (ks : List Nat) (c : CV) : CV := match ks with | [] => c | k :: ks => killAll ks (killC k c)
theorem killC_ok' {V V' : View} {bs bs' : Loc} {p : Nat} (hV : V.le V') (hb : ∀ q, q ≠ p → ∀ x, bs q = some x → bs' q = some x) {c : CV} {v : Value} (h : CR V bs c v) : CR V' bs' (killC p c) v := by
  cases h with
  | dead => exact .dead _
  | nil => exact .nil
  | dv h => exact .dv (h.mono hV)
  | @os q k off len b n cap h hl hc =>
    simp only [killC]; split
    · exact .dead _
    · rename_i hq; exact .os (hb q hq _ h) hl hc
  | oszero => simp only [killC]; split; exact .dead _; exact .oszero
  | @ptr q off b n h =>
    simp only [killC]; split
    · exact .dead _
    · rename_i hq; exact .ptr (hb q hq _ h)
  | @ep q k i f b n h =>
    simp only [killC]; split
    · exact .dead _
    · rename_i hq; exact .ep (hb q hq _ h)
  | @sb q o k n b m h =>
    simp only [killC]; split
    · exact .dead _
    · rename_i hq; exact .sb (hb q hq _ h)
  | dp h1 h2 => exact .dp (fun j hj => hV _ _ (h1 j hj)) (fun j hj => (h2 j hj).mono hV)
theorem killAll_ok {V V' : View} {bs' : Loc} (hV : V.le V') : ∀ {ks : List Nat} {bs : Loc} {c : CV} {v : Value}, (∀ q, q ∉ ks → ∀ x, bs q = some x → bs' q = some x) → CR V bs c v → CR V' bs' (killAll ks c) v
  | [], bs, c, v, hb, h => h.mono hV fun q x => hb q (by simp) x
  | k :: ks, bs, c, v, hb, h => by
    refine killAll_ok (ks := ks) (V := V) (bs := fun q => if q = k then bs' q else bs q) hV (fun q hq x hx => ?_) (killC_ok' (View.le.refl V) (fun q hq x hx => ?_) h)
    · split at hx
      · exact hx
      · rename_i e; exact hb q (by simp [e, hq]) x hx
    · simp only [hq, if_false]; exact hx
/-- The names of the rows that may lie elsewhere. -/
def movN (ps mv : List Nat) : List Nat := mv.filterMap fun i => ps[i]?
def St.after (S : St) (ps : List Nat) (nm : Nat) (mv : List Nat) (Lo : List Row) : St :=
  { T := fun t => mapS (killAll (movN ps mv)) (S.T t), L := setRows ps nm 0 Lo fun q => (S.L q).map (mapR (killAll (movN ps mv))), mv := movN ps mv ++ S.mv }
def callD (P : Program) (nm : Nat) (S : St) (dst : Option Tmp) (fv : SV) (args : List SV) (K : St → Prop) : Prop :=
  ∃ (ps : List Nat) (bor : Bool) (f : FuncId), fv = .one (.dv (.sc (.func (.func f) #[] #[]))) ∧ (ps.Nodup ∧ ps.length ≤ 1000 ∧ 1000 ≤ nm) ∧
    argSs bor S ps args fun args' => rowsD bor S ps ps fun Li => ∃ mv cl Post, CallM P f args' Li mv cl Post ∧ (bor = true → cl = true) ∧ ∀ res Lo, Post res Lo → (∀ j, j < Lo.length - ps.length → S.L (nm + j) = none) ∧
      K ((S.after ps nm mv Lo).put dst (mapS (backC ps nm) res))

theorem setRows_other (ps : List Nat) (nm : Nat) : ∀ (rs : List Row) (i : Nat) (L : Nat → Option Row) (q : Nat), (∀ j, j < rs.length → backN ps nm (i + j) ≠ q) → setRows ps nm i rs L q = L q
  | [], _, _, _, _ => rfl
  | r :: rs, i, L, q, h => by
    rw [setRows, setRows_other ps nm rs (i + 1) _ q (fun j hj => by have := h (j + 1) (by simp; omega); rwa [show i + (j + 1) = i + 1 + j by omega] at this)]
    exact upd_ne _ _ _ _ (by have := h 0 (by simp); exact fun e => this e.symm)
theorem setRows_at (ps : List Nat) (nm : Nat) : ∀ (rs : List Row) (i j : Nat) (L : Nat → Option Row) (q : Nat) (r : Row), rs[j]? = some r → backN ps nm (i + j) = q → (∀ j', j' < rs.length → backN ps nm (i + j') = q → j' = j) →
    setRows ps nm i rs L q = some (mapR (backC ps nm) r)
  | [], _, _, _, _, _, h, _, _ => by simp at h
  | r0 :: rs, i, 0, L, q, r, h, hb, hinj => by
    simp at h; subst h
    rw [setRows, setRows_other ps nm rs (i + 1) _ q (fun j hj e => by
      have := hinj (j + 1) (by simp; omega) (by rwa [show i + (j + 1) = i + 1 + j by omega]); omega)]
    simp at hb; subst hb; simp
  | r0 :: rs, i, j + 1, L, q, r, h, hb, hinj => by
    rw [setRows]
    exact setRows_at ps nm rs (i + 1) j _ q r (by simpa using h) (by rwa [show i + 1 + j = i + (j + 1) by omega]) (fun j' hj' e => by
      have := hinj (j' + 1) (by simp; omega) (by rwa [show i + (j' + 1) = i + 1 + j' by omega]); omega)

theorem nodup_inj : ∀ {ps : List Nat}, ps.Nodup → ∀ {i j : Nat} {p : Nat}, ps[i]? = some p → ps[j]? = some p → i = j
  | [], _, i, j, p, h, _ => by simp at h
  | q :: ps, hn, i, j, p, h1, h2 => by
    rw [List.nodup_cons] at hn
    cases i with
    | zero =>
      cases j with
      | zero => rfl
      | succ j => simp at h1 h2; subst h1; exact absurd (List.mem_of_getElem? h2) hn.1
    | succ i =>
      cases j with
      | zero => simp at h1 h2; subst h2; exact absurd (List.mem_of_getElem? h1) hn.1
      | succ j => simp at h1 h2; rw [nodup_inj hn.2 h1 h2]

theorem flatD_rd {V V' : View} {v : Value} {d : DV} (h : Rd V v d) (hf : flatD d = true) : Rd V' v d := by
  cases h with
  | sc _ h => exact .sc _ h
  | nil a c => exact .nil a c
  | sl b o k cap es f hc hk hV hr =>
    simp [flatD] at hf; subst hf
    exact .nil _ _

section
variable {P : Program} {w0 : World} {M : Rows0} {N : Nat} {V V0 : View} {bs : Loc} {S : St} {a : Act} {w : World}

theorem backC_ok {V V' : View} {bs bs' : Loc} {ps : List Nat} {nm : Nat} {bor : Bool} (hle : bor = false → V.le V') (hb : ∀ p x, bs p = some x → bs' (backN ps nm p) = some x) {c : CV} {v : Value} (hf : bor = true → flatC c = true)
    (h : CR V bs c v) : CR V' bs' (backC ps nm c) v := by
  cases h with
  | dead => exact .dead _
  | nil => exact .nil
  | dv h =>
    cases bor with
    | false => exact .dv (h.mono (hle rfl))
    | true => exact .dv (flatD_rd h (hf rfl))
  | os h hl hc => exact .os (hb _ _ h) hl hc
  | oszero => exact .oszero
  | ptr h => exact .ptr (hb _ _ h)
  | ep h => exact .ep (hb _ _ h)
  | sb h => exact .sb (hb _ _ h)
  | dp h1 h2 =>
    cases bor with
    | false => exact .dp (fun j hj => hle rfl _ _ (h1 j hj)) (fun j hj => (h2 j hj).mono (hle rfl))
    | true => simp [flatC] at hf

theorem backS_ok {V V' : View} {bs bs' : Loc} {ps : List Nat} {nm : Nat} {bor : Bool} (hle : bor = false → V.le V') (hb : ∀ p x, bs p = some x → bs' (backN ps nm p) = some x) {s : SV} {v : Value} (hf : bor = true → flatS s = true)
    (h : VR V bs s v) : VR V' bs' (mapS (backC ps nm) s) v := by
  have hcs : ∀ {cs : List CV} {us : List Value}, CRs V bs cs us → (bor = true → cs.all flatC = true) → CRs V' bs' (cs.map (backC ps nm)) us := by
    intro cs us h
    induction h with
    | nil => intro _; exact .nil
    | cons h _ ih =>
      intro hf
      simp only [List.all_cons, Bool.and_eq_true] at hf
      exact .cons (backC_ok hle hb (fun e => (hf e).1) h) (ih fun e => (hf e).2)
  cases h with
  | one h => exact .one (backC_ok hle hb hf h)
  | agg h => exact .agg (hcs h hf)
  | tup hl h =>
    refine .tup (by simp [hl]) fun i b cs u h1 h2 => ?_
    simp only [List.getElem?_map, Option.map_eq_some_iff] at h1
    obtain ⟨⟨b', cs'⟩, h1, h3⟩ := h1
    simp at h3; obtain ⟨rfl, rfl⟩ := h3
    have hf' : bor = true → cs'.all flatC = true := fun e => by
      have := hf e
      simp only [flatS, List.all_eq_true] at this
      exact List.all_eq_true.2 (this _ (List.mem_of_getElem? h1))
    refine (h i _ _ u h1 h2).imp (fun ⟨e, us, e2, r⟩ => ⟨e, us, e2, hcs r hf'⟩) (fun ⟨e, c, e2, r⟩ => ⟨e, backC ps nm c, by simp [e2], backC_ok hle hb (fun e' => ?_) r⟩)
    have := hf' e'; rw [e2] at this; simpa using this

/-- What has come back, in the caller's words. -/
theorem Sat1.back (hs : Sat1 w0 M N V bs S a w) {ps : List Nat} {nm : Nat} (hnd : ps.Nodup) (hnm : 1000 ≤ nm) (hps : ∀ p ∈ ps, S.L p ≠ none)
    {V' : View} {bs' : Loc} {Lo : List Row} {mv : List Nat} {w' : World} (hV' : V.le V') (hk : Keep (ps.map bs) w w') (hL : SatL w (ps.map bs) V' bs' (Lof Lo) w' mv) (hlen : ps.length ≤ Lo.length)
    (hfree : ∀ j, j < Lo.length - ps.length → S.L (nm + j) = none) (hle : ∀ x u, V' x = some u → V x = some u ∨ w.heap.size ≤ x.block) :
    ∃ V2 bs2, V.le V2 ∧ (∀ x u, V2 x = some u → V x = some u ∨ w0.heap.size ≤ x.block) ∧ V'.le V2 ∧ (∀ p x, bs' p = some x → bs2 (backN ps nm p) = some x) ∧
      Sat1 w0 M N V2 bs2 (S.after ps nm mv Lo) a w' := by
  let V2 : View := fun x => match V x with | some v => some v | none => if w.heap.size ≤ x.block then V' x else none
  let bs2 : Loc := fun q => match idxOf q ps with
    | some i => bs' i
    | none => if nm ≤ q ∧ q < nm + (Lo.length - ps.length) then bs' (ps.length + (q - nm)) else bs q
  have hV2 : V.le V2 := fun x v hx => by simp only [V2, hx]
  have hV2' : ∀ x u, V2 x = some u → V x = some u ∨ (w.heap.size ≤ x.block ∧ V' x = some u) := fun x u hx => by
    simp only [V2] at hx
    split at hx
    · rename_i v hv; simp at hx; subst hx; exact .inl hv
    · split at hx
      · rename_i h; exact .inr ⟨h, hx⟩
      · simp at hx
  have hV2s : ∀ x u, V2 x = some u → V' x = some u := fun x u hx => (hV2' x u hx).elim (hV' _ _) (·.2)
  have hle' : V'.le V2 := fun x u hx => by
    rcases hle x u hx with h1 | h1
    · exact hV2 _ _ h1
    · cases hVx : V x with
      | some v =>
        have := World.block_lt_of_cell? _ _ (hs.view _ _ hVx); omega
      | none => simp only [V2, hVx, h1, if_true, hx]
  -- names
  have hidx : ∀ (i : Nat) p, ps[i]? = some p → idxOf p ps = some i := fun i p hi => by
    cases h : idxOf p ps with
    | none => exact absurd (List.mem_of_getElem? hi) (idxOf_none h)
    | some j =>
      have hj := idxOf_get h
      rw [nodup_inj hnd hj hi]
  have hfresh : ∀ j, j < Lo.length - ps.length → idxOf (nm + j) ps = none := fun j hj => by
    cases h : idxOf (nm + j) ps with
    | none => rfl
    | some i => exact absurd (hfree j hj) (hps _ (List.mem_of_getElem? (idxOf_get h)))
  have hback1 : ∀ (i : Nat) p, ps[i]? = some p → backN ps nm i = p := fun i p h => by simp [backN, h]
  have hback2 : ∀ i, ps.length ≤ i → backN ps nm i = nm + (i - ps.length) := fun i h => by simp [backN, List.getElem?_eq_none h]
  have hinj : ∀ i j, i < Lo.length → j < Lo.length → backN ps nm i = backN ps nm j → i = j := fun i j hi hj e => by
    by_cases h1 : i < ps.length <;> by_cases h2 : j < ps.length
    · have g1 := List.getElem?_eq_getElem h1
      have g2 := List.getElem?_eq_getElem h2
      rw [hback1 _ _ g1, hback1 _ _ g2] at e
      rw [e] at g1
      exact nodup_inj hnd g1 g2
    · have g1 := List.getElem?_eq_getElem h1
      rw [hback1 _ _ g1, hback2 j (by omega)] at e
      have := hfresh (j - ps.length) (by omega)
      rw [← e, hidx _ _ g1] at this; simp at this
    · have g2 := List.getElem?_eq_getElem h2
      rw [hback1 _ _ g2, hback2 i (by omega)] at e
      have := hfresh (i - ps.length) (by omega)
      rw [e, hidx _ _ g2] at this; simp at this
    · rw [hback2 i (by omega), hback2 j (by omega)] at e; omega
  have hdomL : ∀ p x, bs' p = some x → p < Lo.length := fun p x hx => by
    rcases Nat.lt_or_ge p Lo.length with h | h
    · exact h
    · have := hL.dom p (by simp [Lof, List.getElem?_eq_none h]); rw [hx] at this; simp at this
  have hb2 : ∀ p x, bs' p = some x → bs2 (backN ps nm p) = some x := fun p x hx => by
    have hp := hdomL p x hx
    by_cases h1 : p < ps.length
    · have g := List.getElem?_eq_getElem h1
      rw [hback1 _ _ g]; simp only [bs2, hidx _ _ g]; exact hx
    · rw [hback2 p (by omega)]
      have h2 := hfresh (p - ps.length) (by omega)
      simp only [bs2, h2]
      rw [if_pos ⟨by omega, by omega⟩]
      rw [show ps.length + (nm + (p - ps.length) - nm) = p by omega]; exact hx
  -- where a name's row lies now: as the called function left it, or where it was
  have hwhere : ∀ q, (∃ i, i < Lo.length ∧ backN ps nm i = q ∧ bs2 q = bs' i) ∨ (idxOf q ps = none ∧ ¬ (nm ≤ q ∧ q < nm + (Lo.length - ps.length)) ∧ bs2 q = bs q) := fun q => by
    simp only [bs2]
    cases h : idxOf q ps with
    | some i =>
      have hi := idxOf_get h
      have := (List.getElem?_eq_some_iff.1 hi).1
      exact .inl ⟨i, by omega, hback1 _ _ hi, rfl⟩
    | none =>
      by_cases h2 : nm ≤ q ∧ q < nm + (Lo.length - ps.length)
      · exact .inl ⟨ps.length + (q - nm), by omega, by rw [hback2 _ (by omega)]; omega, by simp [h2]⟩
      · exact .inr ⟨rfl, h2, by simp only [h2, if_false]⟩
  have hset1 : ∀ L i r, Lo[i]? = some r → setRows ps nm 0 Lo L (backN ps nm i) = some (mapR (backC ps nm) r) := fun L i r hr =>
    setRows_at ps nm Lo 0 i L _ r hr (by simp) (fun j hj e => hinj j i hj (List.getElem?_eq_some_iff.1 hr).1 (by simpa using e))
  have hset2 : ∀ L q, idxOf q ps = none → ¬ (nm ≤ q ∧ q < nm + (Lo.length - ps.length)) → setRows ps nm 0 Lo L q = L q := fun L q h1 h2 =>
    setRows_other ps nm Lo 0 L q (fun j hj e => by
      rw [Nat.zero_add] at e
      by_cases h3 : j < ps.length
      · have g := List.getElem?_eq_getElem h3
        rw [hback1 _ _ g] at e; subst e; rw [hidx _ _ g] at h1; simp at h1
      · rw [hback2 j (by omega)] at e; subst e; exact h2 ⟨by omega, by omega⟩)
  have hmono : ∀ q, q ∉ movN ps mv → ∀ x, bs q = some x → bs2 q = some x := fun q hq x hx => by
    rcases hwhere q with ⟨i, h1, h2, h3⟩ | ⟨_, _, h3⟩
    · rw [h3]
      by_cases h4 : i < ps.length
      · have g := List.getElem?_eq_getElem h4
        rw [hback1 _ _ g] at h2; subst h2
        have hm : i ∉ mv := fun hm => hq (List.mem_filterMap.2 ⟨i, hm, g⟩)
        have h5 := hL.par i _ (List.getElem?_eq_getElem h1) (by simpa using h4) hm
        rw [List.getElem?_map, g] at h5
        simp at h5; rw [← h5]; exact hx
      · rw [hback2 i (by omega)] at h2
        have := hs.dom q (by rw [← h2]; exact hfree _ (by omega))
        rw [hx] at this; simp at this
    · rw [h3]; exact hx
  have hkeepM : ∀ k, k ∈ blks (ps.map bs) → w0.heap.size ≤ k ∨ k ∈ blks M := fun k hk => by
    obtain ⟨x, hx, hk⟩ := List.mem_filterMap.1 hk
    obtain ⟨p, _, rfl⟩ := List.mem_map.1 hx
    cases hb : bs p with
    | none => rw [hb] at hk; simp at hk
    | some y =>
      obtain ⟨b, n⟩ := y
      rw [hb] at hk; simp at hk; subst hk
      exact (hs.fresh _ _ _ hb).1.imp id mem_blks
  have hfr : ∀ i b n, bs' i = some (b, n) → (w.heap.size ≤ b ∨ ∃ q, ps[i]? = some q ∧ bs q = some (b, n)) ∧ b < w'.heap.size := fun i b n hi => by
    have := hL.fresh _ _ _ hi
    refine ⟨this.1.imp id fun h => ?_, this.2⟩
    rw [List.getElem?_map, Option.map_eq_some_iff] at h
    obtain ⟨q, h1, h2⟩ := h
    exact ⟨q, h1, h2⟩
  have hotherL : ∀ q, idxOf q ps = none → ¬ (nm ≤ q ∧ q < nm + (Lo.length - ps.length)) → (S.after ps nm mv Lo).L q = (S.L q).map (mapR (killAll (movN ps mv))) := fun q h1 h2 => hset2 _ q h1 h2
  refine ⟨V2, bs2, hV2, fun x u hx => (hV2' x u hx).imp id (fun h => Nat.le_trans hs.keep.size h.1), hle', hb2,
    ⟨⟨hk.os.trans hs.keep.os, hk.tape.trans hs.keep.tape, hk.output.trans hs.keep.output, Nat.le_trans hs.keep.size hk.size, fun k hk1 hk2 => ?_⟩, fun x v hx => hL.view _ _ (hV2s _ _ hx), fun x v q b n hx hq => ?_, fun q q' b n n' h1 h2 => ?_, fun q b n hq => ?_, fun q r hq hlt hmv => ?_, hs.ml, fun q hq => ?_, fun q r hq => ?_,
      fun t => (hs.tmps t).map fun c v hc => killAll_ok hV2 hmono hc, hs.defers, hs.nt⟩⟩
  · rw [hk.block k (Nat.lt_of_lt_of_le hk1 hs.keep.size) (fun hm => (hkeepM k hm).elim (fun h => by omega) hk2)]
    exact hs.keep.block k hk1 hk2
  · rcases hwhere q with ⟨i, _, _, h⟩ | ⟨_, _, h⟩
    · rw [h] at hq; exact hL.apart _ _ _ _ _ (hV2s _ _ hx) hq
    · rw [h] at hq
      rcases hV2' x v hx with h1 | ⟨h1, _⟩
      · exact hs.apart _ _ _ _ _ h1 hq
      · have := (hs.fresh _ _ _ hq).2; omega
  · have mixed : ∀ q q' b n n' i, backN ps nm i = q → bs' i = some (b, n) → idxOf q' ps = none → bs q' = some (b, n') → q = q' := fun q q' b n n' i e1 e2 e3 e4 => by
      rcases (hfr _ _ _ e2).1 with h | ⟨p, h5, h6⟩
      · have := (hs.fresh _ _ _ e4).2; omega
      · have := hs.inj _ _ _ _ _ h6 e4; subst this
        rw [hidx _ _ h5] at e3; simp at e3
    rcases hwhere q with ⟨i, g1, g2, g3⟩ | ⟨g1, g2, g3⟩ <;> rcases hwhere q' with ⟨j, e1, e2, e3⟩ | ⟨e1, e2, e3⟩
    · rw [g3] at h1; rw [e3] at h2
      have := hL.inj _ _ _ _ _ h1 h2; subst this
      rw [← g2, e2]
    · rw [g3] at h1; rw [e3] at h2; exact mixed q q' b n n' i g2 h1 e1 h2
    · rw [g3] at h1; rw [e3] at h2; exact (mixed q' q b n' n j e2 h2 g1 h1).symm
    · rw [g3] at h1; rw [e3] at h2; exact hs.inj _ _ _ _ _ h1 h2
  · rcases hwhere q with ⟨i, g1, g2, g3⟩ | ⟨g1, g2, g3⟩
    · rw [g3] at hq
      refine ⟨?_, (hfr _ _ _ hq).2⟩
      rcases (hfr _ _ _ hq).1 with h | ⟨p, h5, h6⟩
      · exact .inl (Nat.le_trans hs.keep.size h)
      · have : p = q := by rw [← g2, hback1 _ _ h5]
        subst this; exact (hs.fresh _ _ _ h6).1
    · rw [g3] at hq
      exact ⟨(hs.fresh _ _ _ hq).1, Nat.lt_of_lt_of_le (hs.fresh _ _ _ hq).2 hk.size⟩
  · have h1 : ¬ (nm ≤ q ∧ q < nm + (Lo.length - ps.length)) := by have := hs.ml; omega
    have hmv1 : q ∉ movN ps mv := fun h => hmv (List.mem_append_left _ h)
    have hmv2 : q ∉ S.mv := fun h => hmv (List.mem_append_right _ h)
    have h3 : S.L q ≠ none := by
      cases h : idxOf q ps with
      | some i => exact hps _ (List.mem_of_getElem? (idxOf_get h))
      | none => intro h4; rw [hotherL q h h1, h4] at hq; simp at hq
    obtain ⟨r0, hr0⟩ := Option.ne_none_iff_exists'.1 h3
    rw [hs.par q r0 hr0 hlt hmv2]
    cases h : idxOf q ps with
    | none => simp only [bs2, h, h1, if_false]
    | some i =>
      have hi := idxOf_get h
      have hil := (List.getElem?_eq_some_iff.1 hi).1
      have hm : i ∉ mv := fun hm => hmv1 (List.mem_filterMap.2 ⟨i, hm, hi⟩)
      have h5 := hL.par i _ (List.getElem?_eq_getElem (by omega)) (by simpa using hil) hm
      rw [List.getElem?_map, hi] at h5
      simp only [bs2, h]
      simpa using h5
  · rcases hwhere q with ⟨i, g1, g2, g3⟩ | ⟨g1, g2, g3⟩
    · have := hset1 (fun q => (S.L q).map (mapR (killAll (movN ps mv)))) i _ (List.getElem?_eq_getElem g1)
      rw [g2] at this
      have hq : setRows ps nm 0 Lo (fun q => (S.L q).map (mapR (killAll (movN ps mv)))) q = none := hq
      rw [hq] at this; simp at this
    · rw [hotherL q g1 g2, Option.map_eq_none_iff] at hq
      rw [g3]; exact hs.dom q hq
  · rcases hwhere q with ⟨i, g1, g2, g3⟩ | ⟨g1, g2, g3⟩
    · have h1 := hset1 (fun q => (S.L q).map (mapR (killAll (movN ps mv)))) i _ (List.getElem?_eq_getElem g1)
      rw [g2] at h1
      have hq : setRows ps nm 0 Lo (fun q => (S.L q).map (mapR (killAll (movN ps mv)))) q = some r := hq
      rw [hq] at h1
      injection h1 with h1; subst h1
      rw [g3]
      rcases hL.rows i _ (List.getElem?_eq_getElem g1) with ⟨b, n, e1, e2⟩ | ⟨e1, k, e2⟩
      · refine .inl ⟨b, n, e1, ?_⟩
        generalize Lo[i] = r0 at e2
        cases r0 with
        | box cs =>
          obtain ⟨g1, g2, vs, g3, g4⟩ := e2
          refine ⟨by simpa using g1, g2, vs, ?_, g4⟩
          have : VR V2 bs2 (mapS (backC ps nm) (.agg cs)) (.agg vs.toArray) := backS_ok (bor := false) (fun _ => hle') hb2 (fun h => by simp at h) (.agg g3)
          cases this; assumption
        | own k es =>
          obtain ⟨g1, g2, g3, g4⟩ := e2
          refine ⟨g1, g2, g3, fun i j hi hj => ?_⟩
          obtain ⟨v, g5, g6⟩ := g4 i j hi hj
          exact ⟨v, g5, g6.mono hle'⟩
      · refine .inr ⟨e1, k, ?_⟩
        have e3 : Lo[i] = .own k [] := e2
        rw [e3]; rfl
    · rw [hotherL q g1 g2, Option.map_eq_some_iff] at hq
      obtain ⟨r0, hr0, rfl⟩ := hq
      rw [g3]
      refine (hs.rows q r0 hr0).imp (fun ⟨b, n, e1, e2⟩ => ⟨b, n, e1, ?_⟩) (fun ⟨e1, k, e2⟩ => ⟨e1, k, by rw [e2]; rfl⟩)
      have hb : w'.heap[b]? = w.heap[b]? := by
        refine hk.block b (hs.fresh _ _ _ e1).2 (fun hm => ?_)
        obtain ⟨x, hx, hxb⟩ := List.mem_filterMap.1 hm
        obtain ⟨p, hp, rfl⟩ := List.mem_map.1 hx
        cases hbp : bs p with
        | none => rw [hbp] at hxb; simp at hxb
        | some y =>
          obtain ⟨b', n'⟩ := y
          rw [hbp] at hxb; simp at hxb; subst hxb
          have := hs.inj _ _ _ _ _ e1 hbp; subst this
          exact absurd hp (idxOf_none g1)
      exact (e2.mono (View.le.refl V) (fun _ _ h => h) (fun j => World.cell_of_block hb) (fun j => World.frozen_of_block hb)).map hV2 fun c v hc => killAll_ok hV2 hmono hc
end
end Go.Proofs.Ytoklfidamhigcaa.D
