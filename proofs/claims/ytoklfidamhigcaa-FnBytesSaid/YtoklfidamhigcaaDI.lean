/- Slots and rows whose references are struck, or turned into what they read as. -/
import Derived.Test.YtoklfidamhigcaaDH
namespace Go.Proofs.Ytoklfidamhigcaa.D
open Go.RowKit

def mapS (f : CV → CV) : SV → SV
  | .one c => .one (f c)
  | .agg cs => .agg (cs.map f)
  | .tup vs => .tup (vs.map fun p => (p.1, p.2.map f))
def mapR (f : CV → CV) : Row → Row
  | .box cs => .box (cs.map f)
  | .own k es => .own k es

def killC (p : Nat) : CV → CV
  | .os q k off len => if q = p then .dead else .os q k off len
  | .ptr q o => if q = p then .dead else .ptr q o
  | .ep q k i f => if q = p then .dead else .ep q k i f
  | .sb q o k n => if q = p then .dead else .sb q o k n
  | c => c
def St.kill (S : St) (p : Nat) : St := { S with T := fun t => mapS (killC p) (S.T t), L := fun q => (S.L q).map (mapR (killC p)) }

section
variable {P : Program} {w0 : World} {M : Rows0} {N : Nat} {V : View} {bs : Loc} {S : St} {a : Act} {w : World}

theorem CRs.map {V V' : View} {bs bs' : Loc} {f : CV → CV} (hf : ∀ c v, CR V bs c v → CR V' bs' (f c) v) {cs : List CV} {vs : List Value} (h : CRs V bs cs vs) : CRs V' bs' (cs.map f) vs := by
  induction h with
  | nil => exact .nil
  | cons h _ ih => exact .cons (hf _ _ h) ih
theorem VR.map {V V' : View} {bs bs' : Loc} {f : CV → CV} (hf : ∀ c v, CR V bs c v → CR V' bs' (f c) v) {s : SV} {v : Value} (h : VR V bs s v) : VR V' bs' (mapS f s) v := by
  cases h with
  | one h => exact .one (hf _ _ h)
  | agg h => exact .agg (h.map hf)
  | tup hl h =>
    refine .tup (by simp [hl]) fun i b cs u h1 h2 => ?_
    simp only [List.getElem?_map, Option.map_eq_some_iff] at h1
    obtain ⟨⟨b', cs'⟩, h1, h3⟩ := h1
    simp at h3; obtain ⟨rfl, rfl⟩ := h3
    refine (h i _ _ u h1 h2).imp (fun ⟨e, us, e2, r⟩ => ⟨e, us, e2, r.map hf⟩) (fun ⟨e, c, e2, r⟩ => ⟨e, f c, by simp [e2], hf _ _ r⟩)
theorem RowSat.map {V V' : View} {bs bs' : Loc} {f : CV → CV} (hV : V.le V') (hf : ∀ c v, CR V bs c v → CR V' bs' (f c) v) {w : World} {b n : Nat} {r : Row} (h : RowSat V bs w b n r) : RowSat V' bs' w b n (mapR f r) := by
  cases r with
  | box cs =>
    obtain ⟨h1, h2, vs, h3, h4⟩ := h
    exact ⟨by simpa using h1, h2, vs, h3.map hf, h4⟩
  | own k es =>
    obtain ⟨h1, h2, h3, h4⟩ := h
    exact ⟨h1, h2, h3, fun i j hi hj => by obtain ⟨v, h5, h6⟩ := h4 i j hi hj; exact ⟨v, h5, h6.mono hV⟩⟩

theorem killC_ok {V : View} {bs bs' : Loc} {p : Nat} (hb : ∀ q, q ≠ p → bs' q = bs q) {c : CV} {v : Value} (h : CR V bs c v) : CR V bs' (killC p c) v := by
  cases h with
  | dead => exact .dead _
  | nil => exact .nil
  | dv h => exact .dv h
  | @os q k off len b n cap h hl hc =>
    simp only [killC]; split
    · exact .dead _
    · rename_i hq; exact .os (by rw [hb q hq]; exact h) hl hc
  | oszero => simp only [killC]; split; exact .dead _; exact .oszero
  | @ptr q off b n h =>
    simp only [killC]; split
    · exact .dead _
    · rename_i hq; exact .ptr (by rw [hb q hq]; exact h)
  | @ep q k i f b n h =>
    simp only [killC]; split
    · exact .dead _
    · rename_i hq; exact .ep (by rw [hb q hq]; exact h)
  | @sb q o k n b m h =>
    simp only [killC]; split
    · exact .dead _
    · rename_i hq; exact .sb (by rw [hb q hq]; exact h)
  | dp h1 h2 => exact .dp h1 h2

theorem St.kill_none {p q : Nat} : (S.kill p).L q = none ↔ S.L q = none := by simp [St.kill]

theorem kill_some {p q : Nat} {r : Row} (h : (S.kill p).L q = some r) : ∃ r', S.L q = some r' := by
  simp only [St.kill, Option.map_eq_some_iff] at h
  obtain ⟨r', hr, _⟩ := h
  exact ⟨r', hr⟩

theorem Sat1.killed (h : Sat1 w0 M N V bs S a w) (p : Nat) : Sat1 w0 M N V bs (S.kill p) a w := by
  refine ⟨h.keep, h.view, h.apart, h.inj, h.fresh, fun q r hq hlt hmv => ?_, h.ml, fun q hq => h.dom q (St.kill_none.1 hq), fun q r hq => ?_, fun t => (h.tmps t).map fun c v hc => killC_ok (fun _ _ => rfl) hc, h.defers, h.nt⟩
  · obtain ⟨r0, h3⟩ := kill_some hq
    exact h.par q r0 h3 hlt hmv
  simp only [St.kill, Option.map_eq_some_iff] at hq
  obtain ⟨r', hr', rfl⟩ := hq
  refine (h.rows q r' hr').imp (fun ⟨b, n, h1, h2⟩ => ⟨b, n, h1, h2.map (View.le.refl V) fun c v hc => killC_ok (fun _ _ => rfl) hc⟩) (fun ⟨h1, k, h2⟩ => ⟨h1, k, by rw [h2]; rfl⟩)

/-- Row p lies in a new block, and nobody looks at it any more. -/
theorem Sat1.moved (h : Sat1 w0 M N V bs S a w) {p n k : Nat} {o : Obj} {es : List (List DV)}
    (hr : RowSat V bs (w.alloc o) w.heap.size n (.own k es)) :
    Sat1 w0 M N V (upd bs p (some (w.heap.size, n))) { S.kill p with L := upd (S.kill p).L p (some (.own k es)), mv := p :: S.mv } a (w.alloc o) := by
  have hb : ∀ q, q ≠ p → upd bs p (some (w.heap.size, n)) q = bs q := fun q hq => upd_ne _ _ _ _ hq
  have hold : ∀ k, k < w.heap.size → (w.alloc o).heap[k]? = w.heap[k]? := fun k hk => Below.heap_alloc w o k hk
  refine ⟨h.keep.trans ⟨rfl, rfl, rfl, by simp, fun k hk _ => hold k hk⟩, fun x v hx => ?_, fun x v q b m hx hq => ?_, ?_, ?_, fun q r' hq hlt hmv => ?_, h.ml, ?_, ?_, fun t => (h.tmps t).map fun c v hc => killC_ok hb hc, h.defers, h.nt⟩
  · have := h.view x v hx
    rw [World.cell_of_block (hold _ (World.block_lt_of_cell? _ _ this))]; exact this
  · by_cases hqp : q = p
    · subst hqp; simp at hq; obtain ⟨rfl, rfl⟩ := hq
      have := World.block_lt_of_cell? _ _ (h.view x v hx); omega
    · rw [upd_ne _ _ _ _ hqp] at hq; exact h.apart x v q b m hx hq
  · intro q q' b m m' h1 h2
    by_cases e1 : q = p <;> by_cases e2 : q' = p
    · rw [e1, e2]
    · subst e1; simp at h1; rw [upd_ne _ _ _ _ e2] at h2
      have := (h.fresh _ _ _ h2).2; omega
    · subst e2; simp at h2; rw [upd_ne _ _ _ _ e1] at h1
      have := (h.fresh _ _ _ h1).2; omega
    · rw [upd_ne _ _ _ _ e1] at h1; rw [upd_ne _ _ _ _ e2] at h2; exact h.inj _ _ _ _ _ h1 h2
  · intro q b m hq
    by_cases e1 : q = p
    · subst e1; simp at hq; obtain ⟨rfl, rfl⟩ := hq
      exact ⟨.inl h.keep.size, by simp⟩
    · rw [upd_ne _ _ _ _ e1] at hq
      have := h.fresh _ _ _ hq
      exact ⟨this.1, by simp; omega⟩
  · have e1 : q ≠ p := fun e => hmv (by simp [e])
    simp only [upd_ne _ _ _ _ e1] at hq ⊢
    obtain ⟨r0, h3⟩ := kill_some hq
    exact h.par q r0 h3 hlt fun hm => hmv (List.mem_cons_of_mem _ hm)
  · intro q hq
    by_cases e1 : q = p
    · subst e1; simp at hq
    · simp only [upd_ne _ _ _ _ e1] at hq ⊢; exact h.dom q (St.kill_none.1 hq)
  · intro q r' hq
    by_cases e1 : q = p
    · subst e1; simp at hq; subst hq
      exact .inl ⟨_, _, by simp, hr⟩
    · simp only [upd_ne _ _ _ _ e1, St.kill, Option.map_eq_some_iff] at hq ⊢
      obtain ⟨r0, hr0, rfl⟩ := hq
      refine (h.rows q r0 hr0).imp (fun ⟨b, m, h1, h2⟩ => ⟨b, m, h1, ?_⟩) (fun ⟨h1, k, h2⟩ => ⟨h1, k, by rw [h2]; rfl⟩)
      refine (h2.mono (View.le.refl V) (fun _ _ h => h) (fun j => ?_) (fun j => ?_)).map (View.le.refl V) fun c v hc => killC_ok hb hc
      · exact World.cell_of_block (hold _ (h.fresh _ _ _ h1).2)
      · exact World.frozen_of_block (hold _ (h.fresh _ _ _ h1).2)

/-- An empty row without a block. -/
theorem Sat1.empty (h : Sat1 w0 M N V bs S a w) {p : Nat} (hp : S.L p = none) (hp2 : 1000 ≤ p) (k : Nat) : Sat1 w0 M N V bs { S with L := upd S.L p (some (.own k [])) } a w := by
  refine ⟨h.keep, h.view, h.apart, h.inj, h.fresh, fun q r hq hlt hmv => ?_, h.ml, fun q hq => ?_, fun q r hq => ?_, h.tmps, h.defers, h.nt⟩
  · have e : q ≠ p := by have := h.ml; omega
    simp only [upd_ne _ _ _ _ e] at hq; exact h.par q r hq hlt hmv
  · by_cases e : q = p
    · subst e; exact h.dom q hp
    · simp only [upd_ne _ _ _ _ e] at hq; exact h.dom q hq
  · by_cases e : q = p
    · subst e; simp at hq; subst hq; exact .inr ⟨h.dom q hp, k, rfl⟩
    · simp only [upd_ne _ _ _ _ e] at hq; exact h.rows q r hq

/-- A row is written no more: what it holds is read from now on. -/
theorem Sat1.frozen (h : Sat1 w0 M N V bs S a w) {p k : Nat} {es : List (List DV)} (hL : S.L p = some (.own k es)) (hp : 1000 ≤ p) :
    ∃ V', V.le V' ∧ (∀ x v, V' x = some v → V x = some v ∨ w0.heap.size ≤ x.block) ∧ Sat1 w0 M N V' (upd bs p none) { S.kill p with L := upd (S.kill p).L p none } a w ∧
      ∀ off len v, CR V bs (.os p k off len) v → off + len ≤ es.length → Rd V' v (.sl ((es.drop off).take len)) := by
  let V' : View := fun x => match V x with
    | some v => some v
    | none => match bs p with
      | some (b, _) => if x.block = b then w.cell? x else none
      | none => none
  have hV : V.le V' := fun x v hx => by simp only [V', hx]
  have hV' : ∀ x v, V' x = some v → V x = some v ∨ ∃ b n, bs p = some (b, n) ∧ x.block = b ∧ w.cell? x = some v := fun x v hx => by
    simp only [V'] at hx
    split at hx
    · rename_i u hu; simp at hx; subst hx; exact .inl hu
    · split at hx
      · rename_i b n hb
        split at hx
        · rename_i he; exact .inr ⟨b, n, hb, he, hx⟩
        · simp at hx
      · simp at hx
  have hbp : ∀ q, q ≠ p → upd bs p none q = bs q := fun q hq => upd_ne _ _ _ _ hq
  have hpost : ∀ x v, V' x = some v → V x = some v ∨ w0.heap.size ≤ x.block := fun x v hx => by
    rcases hV' x v hx with h1 | ⟨b, n, hb, he, _⟩
    · exact .inl h1
    · rw [he]; rcases (h.fresh _ _ _ hb).1 with h1 | h1
      · exact .inr h1
      · have h2 := (List.getElem?_eq_some_iff.1 h1).1
        have := h.ml; omega
  refine ⟨V', hV, hpost, ⟨h.keep, fun x v hx => ?_, fun x v q b m hx hq => ?_, ?_, ?_, fun q r hq hlt hmv => ?_, h.ml, ?_, ?_, ?_, h.defers, h.nt⟩, ?_⟩
  · rcases hV' x v hx with h1 | ⟨b, n, hb, he, hc⟩
    · exact h.view x v h1
    · exact hc
  · by_cases e : q = p
    · subst e; simp at hq
    · rw [hbp q e] at hq
      rcases hV' x v hx with h1 | ⟨b', n', hb', he, hc⟩
      · exact h.apart x v q b m h1 hq
      · rw [he]; rintro rfl; exact e (h.inj _ _ _ _ _ hq hb')
  · intro q q' b m m' h1 h2
    by_cases e1 : q = p
    · subst e1; simp at h1
    · by_cases e2 : q' = p
      · subst e2; simp at h2
      · rw [hbp q e1] at h1; rw [hbp q' e2] at h2; exact h.inj _ _ _ _ _ h1 h2
  · intro q b m hq
    by_cases e1 : q = p
    · subst e1; simp at hq
    · rw [hbp q e1] at hq; exact h.fresh _ _ _ hq
  · by_cases e1 : q = p
    · subst e1; simp at hq
    · rw [hbp q e1]; simp only [upd_ne _ _ _ _ e1] at hq
      obtain ⟨r0, h3⟩ := kill_some hq
      exact h.par q r0 h3 hlt hmv
  · intro q hq
    by_cases e1 : q = p
    · subst e1; simp
    · rw [hbp q e1]; simp only [upd_ne _ _ _ _ e1] at hq; exact h.dom q (St.kill_none.1 hq)
  · intro q r' hq
    by_cases e1 : q = p
    · subst e1; simp at hq
    · simp only [upd_ne _ _ _ _ e1, St.kill, Option.map_eq_some_iff] at hq ⊢
      obtain ⟨r0, hr0, rfl⟩ := hq
      refine (h.rows q r0 hr0).imp (fun ⟨b, m, h1, h2⟩ => ⟨b, m, h1, h2.map hV fun c v hc => (killC_ok hbp hc).mono hV fun _ _ h => h⟩) (fun ⟨h1, k, h2⟩ => ⟨h1, k, by rw [h2]; rfl⟩)
  · intro t
    exact (h.tmps t).map fun c v hc => (killC_ok hbp hc).mono hV fun _ _ h => h
  · intro off len v hc hle
    have hlen : ((es.drop off).take len).length = len := by simp; omega
    cases hc with
    | @os _ _ _ _ b n cap hb hl hcap =>
      rcases h.rows p _ hL with ⟨b', n', hb', hr⟩ | ⟨hb', _⟩
      · rw [hb] at hb'; simp at hb'; obtain ⟨rfl, rfl⟩ := hb'
        obtain ⟨h1, h2, h3, h4⟩ := hr
        have hget : ∀ i (hi : i < ((es.drop off).take len).length), ((es.drop off).take len)[i] = es[off + i]'(by omega) := fun i hi => by simp
        have hex : ∀ i j, ∃ v, i < len → j < k → (w.cell? ⟨b, (off + i) * k + j, none⟩ = some v ∧ ∀ (hi : off + i < es.length) (hj : j < es[off + i].length), Rd V v (es[off + i][j])) := fun i j => by
          by_cases hij : i < len ∧ j < k
          · have hi : off + i < es.length := by omega
            have hj : j < es[off + i].length := by rw [h3 _ hi]; exact hij.2
            obtain ⟨v, h5, h6⟩ := h4 _ j hi hj
            exact ⟨v, fun _ _ => ⟨h5, fun _ _ => h6⟩⟩
          · exact ⟨undef, fun h1 h2 => absurd ⟨h1, h2⟩ hij⟩
        have hsl := Rd.sl (V := V') b (off * k) k cap ((es.drop off).take len) (fun i j => Classical.choose (hex i j)) (by omega) (fun i hi => by rw [hget i hi]; exact h3 _ _) (fun i j hi hj => ?_) (fun i j hi hj => ?_)
        · rw [hlen] at hsl; exact hsl
        · rw [hlen] at hi
          have := (Classical.choose_spec (hex i j) hi hj).1
          rw [show off * k + i * k + j = (off + i) * k + j by rw [Nat.add_mul]]
          simp only [V', hb]
          have hn : V ⟨b, (off + i) * k + j, none⟩ = none := by
            cases hVx : V ⟨b, (off + i) * k + j, none⟩ with
            | none => rfl
            | some u => exact absurd rfl (h.apart _ _ _ _ _ hVx hb)
          simp only [hn, if_true]; exact this
        · have h5 := hget i hi
          have hi' : i < len := by omega
          have hj' : j < k := by rw [h5, h3] at hj; exact hj
          have := (Classical.choose_spec (hex i j) hi' hj').2 (by omega) (by rw [h3]; exact hj')
          have h6 : ((es.drop off).take len)[i][j] = (es[off + i]'(by omega))[j]'(by rw [h3]; exact hj') := by simp
          rw [h6]; exact this.mono hV
      · rw [hb] at hb'; simp at hb'
    | oszero => simp; exact .nil _ _
end
end Go.Proofs.Ytoklfidamhigcaa.D
