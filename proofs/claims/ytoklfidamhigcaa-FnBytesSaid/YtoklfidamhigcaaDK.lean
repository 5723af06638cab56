/- The operations that make rows, or write to them. -/
import Derived.Test.YtoklfidamhigcaaDJ
namespace Go.Proofs.Ytoklfidamhigcaa.D
open Go.RowKit

def St.new (S : St) (p : Nat) (r : Row) : St := { S with L := upd S.L p (some r) }
/-- Row p may lie elsewhere now. -/
def St.mov (S : St) (p : Nat) : St := { S with mv := p :: S.mv }
def St.frz (S : St) (p : Nat) : St := { S.kill p with L := upd (S.kill p).L p none }

/-- Cells that are to be read only from now on. -/
def deepCells : St → List CV → (St → List DV → Prop) → Prop
  | S, [], K => K S []
  | S, c :: cs, K =>
    match c with
    | .dv d => deepCells S cs fun S' ds => K S' (d :: ds)
    | .nil => deepCells S cs fun S' ds => K S' (.sl [] :: ds)
    | .os p k off len =>
      (match S.L p with
      | some (.own k' es) => (k = k' ∧ off + len ≤ es.length ∧ 1000 ≤ p) ∧ deepCells (S.frz p) (cs.map (killC p)) fun S' ds => K S' (.sl ((es.drop off).take len) :: ds)
      | _ => False)
    | _ => False
termination_by _ cs => cs.length

inductive RdL (V : View) : List Value → List DV → Prop
  | nil : RdL V [] []
  | cons {v : Value} {d : DV} {vs : List Value} {ds : List DV} (h : Rd V v d) (t : RdL V vs ds) : RdL V (v :: vs) (d :: ds)
theorem RdL.mono {V V' : View} (hV : V.le V') {vs : List Value} {ds : List DV} (h : RdL V vs ds) : RdL V' vs ds := by
  induction h with
  | nil => exact .nil
  | cons h _ ih => exact .cons (h.mono hV) ih
theorem RdL.length {V : View} {vs : List Value} {ds : List DV} (h : RdL V vs ds) : vs.length = ds.length := by
  induction h with
  | nil => rfl
  | cons _ _ ih => simp [ih]
theorem RdL.get {V : View} {vs : List Value} {ds : List DV} (h : RdL V vs ds) : ∀ (j : Nat) (hj : j < ds.length), ∃ v, vs[j]? = some v ∧ Rd V v ds[j] := by
  induction h with
  | nil => intro j hj; simp at hj
  | cons h _ ih =>
    intro j hj
    cases j with
    | zero => exact ⟨_, rfl, h⟩
    | succ j => obtain ⟨v, h1, h2⟩ := ih j (by simpa using hj); exact ⟨v, by simpa using h1, by simpa using h2⟩

section
variable {P : Program} {w0 : World} {M : Rows0} {N : Nat} {V V0 : View} {bs : Loc} {S : St} {a : Act} {w : World}

theorem deepCells_ok : ∀ (n : Nat) {V : View} {bs : Loc} {S : St} (cs : List CV) (vs : List Value) (K : St → List DV → Prop), cs.length = n → Sat1 w0 M N V bs S a w → CRs V bs cs vs → deepCells S cs K →
    ∃ S' V' bs' ds, K S' ds ∧ V.le V' ∧ (∀ x v, V' x = some v → V x = some v ∨ w0.heap.size ≤ x.block) ∧ Sat1 w0 M N V' bs' S' a w ∧ RdL V' vs ds ∧
      (∀ q, S.L q = none → S'.L q = none) ∧ (∀ q, S'.L q ≠ none → bs' q = bs q)
  | 0, V, bs, S, [], _, K, _, hs, hc, h => by
    cases hc
    simp only [deepCells] at h
    exact ⟨S, V, bs, [], h, View.le.refl V, fun _ _ h => .inl h, hs, .nil, fun _ h => h, fun _ _ => rfl⟩
  | n + 1, V, bs, S, c :: cs, _, K, hn, hs, hc, h => by
    cases hc with
    | @cons _ v _ vs hcv hcs =>
      unfold deepCells at h
      simp at hn
      split at h
      · rename_i d
        obtain ⟨S', V', bs', ds, h1, h2, h3, h4, h5, h6, h7⟩ := deepCells_ok n cs vs _ hn hs hcs h
        refine ⟨S', V', bs', d :: ds, h1, h2, h3, h4, .cons ?_ h5, h6, h7⟩
        cases hcv; rename_i hr; exact hr.mono h2
      · obtain ⟨S', V', bs', ds, h1, h2, h3, h4, h5, h6, h7⟩ := deepCells_ok n cs vs _ hn hs hcs h
        refine ⟨S', V', bs', .sl [] :: ds, h1, h2, h3, h4, .cons ?_ h5, h6, h7⟩
        cases hcv; exact .nil _ _
      · rename_i p k off len
        split at h
        · rename_i k' es hL
          obtain ⟨⟨rfl, hle, hp⟩, h⟩ := h
          obtain ⟨V1, g1, g2, g3, g4⟩ := hs.frozen hL hp
          have hbp : ∀ q, q ≠ p → upd bs p none q = bs q := fun q hq => upd_ne _ _ _ _ hq
          obtain ⟨S', V', bs', ds, h1, h2, h3, h4, h5, h6, h7⟩ := deepCells_ok n (cs.map (killC p)) vs _ (by simpa using hn) g3 ((hcs.map fun c v hc => (killC_ok hbp hc).mono g1 fun _ _ h => h)) h
          refine ⟨S', V', bs', _, h1, g1.trans h2, fun x v hx => (h3 x v hx).elim (g2 x v) .inr, h4, .cons ((g4 off len v hcv hle).mono h2) h5, fun q hq => h6 q ?_, fun q hq => ?_⟩
          · by_cases e : q = p
            · subst e; simp [hL] at hq
            · simp only [upd_ne _ _ _ _ e]; exact St.kill_none.2 hq
          · rw [h7 q hq]
            by_cases e : q = p
            · subst e; exact absurd (h6 q (by simp)) hq
            · exact hbp q e
        · exact h.elim
      · exact h.elim

theorem wp_value {o : Oper} {v : Value} {w' : World} {K : Act → World → Prop} {Q : Exit → Act → World → Prop} (hr : (execOp a.eval o).run P w = .ok (.value v) w') (h : K (a.put o.dst v) w') : o.wp P a w K Q := by
  unfold Oper.wp; rw [hr]; exact h
theorem wp_skip' {o : Oper} {w' : World} {K : Act → World → Prop} {Q : Exit → Act → World → Prop} (hr : (execOp a.eval o).run P w = .ok .skip w') (h : K (a.put o.dst undef) w') : o.wp P a w K Q := by
  unfold Oper.wp; rw [hr]; exact h

theorem Sat1.sat {V : View} (h0 : V0.le V) (h1 : ∀ x v, V x = some v → V0 x = some v ∨ w0.heap.size ≤ x.block) (h : Sat1 w0 M N V bs S a w) : Sat w0 M N V0 S a w := ⟨V, bs, h0, h1, h⟩

/-- A box is made. -/
theorem Sat1.newBox (h : Sat1 w0 M N V bs S a w) {p : Nat} (hp : S.L p = none) (hp2 : 1000 ≤ p) {cs : List CV} {vs : Array Value} {t : TypeId} (hc : CRs V bs cs vs.toList) :
    Sat1 w0 M N V (upd bs p (some (w.heap.size, cs.length))) (S.new p (.box cs)) a (w.alloc (.cells vs t)) ∧ upd bs p (some (w.heap.size, cs.length)) p = some (w.heap.size, cs.length) := by
  refine ⟨h.alloc hp hp2 ⟨rfl, fun j _ => World.frozen?_alloc_new _ _ _ _, vs.toList, hc, fun j v hj => ?_⟩, by simp⟩
  rw [World.cell?_alloc_new]; simpa using hj

/-- Room for cells of a list. -/
theorem rowSat_new {k : Nat} {es : List (List DV)} {us : List Value} {rest : List Value} {t : TypeId} (hf : FlatR V k es us) :
    RowSat V bs (w.alloc (.cells (us ++ rest).toArray t)) w.heap.size (us ++ rest).length (.own k es) := by
  obtain ⟨h1, h2, h3⟩ := hf
  refine ⟨by simp [h1], fun j hj => ⟨?_, World.frozen?_alloc_new _ _ _ _⟩, fun i hi => h2 _ (List.getElem_mem hi), fun i j hi hj => ?_⟩
  · rw [World.cell?_alloc_new]; simpa using hj
  · obtain ⟨u, h4, h5⟩ := h3 i j hi hj
    refine ⟨u, ?_, h5⟩
    rw [World.cell?_alloc_new]
    have hlt := (List.getElem?_eq_some_iff.1 h4).1
    simp only [List.getElem?_toArray]
    rw [List.getElem?_append_left hlt]; exact h4
end
end Go.Proofs.Ytoklfidamhigcaa.D
