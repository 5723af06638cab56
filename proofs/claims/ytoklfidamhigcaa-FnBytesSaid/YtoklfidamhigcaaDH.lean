/- New rows, and rows written to. -/
import Derived.Test.YtoklfidamhigcaaDG
namespace Go.Proofs.Ytoklfidamhigcaa.D
open Go.RowKit

section
variable {P : Program} {w0 : World} {M : Rows0} {N : Nat} {V : View} {bs : Loc} {S : St} {a : Act} {w : World}

theorem RowSat.mono {V V' : View} {bs bs' : Loc} {w w' : World} {b n : Nat} {r : Row} (hV : V.le V') (hb : ∀ p x, bs p = some x → bs' p = some x)
    (hc : ∀ j, w'.cell? ⟨b, j, none⟩ = w.cell? ⟨b, j, none⟩) (hf : ∀ j, w'.frozen? ⟨b, j, none⟩ = w.frozen? ⟨b, j, none⟩) (h : RowSat V bs w b n r) : RowSat V' bs' w' b n r := by
  cases r with
  | box cs =>
    obtain ⟨h1, h2, vs, h3, h4⟩ := h
    exact ⟨h1, fun j hj => by rw [hf]; exact h2 j hj, vs, h3.mono hV hb, fun j v hj => by rw [hc]; exact h4 j v hj⟩
  | own k es =>
    obtain ⟨h1, h2, h3, h4⟩ := h
    exact ⟨h1, fun j hj => by rw [hc, hf]; exact h2 j hj, h3, fun i j hi hj => by
      obtain ⟨v, h5, h6⟩ := h4 i j hi hj
      exact ⟨v, by rw [hc]; exact h5, h6.mono hV⟩⟩

theorem World.cell_of_block {w w' : World} {x : Addr} (h : w'.heap[x.block]? = w.heap[x.block]?) : w'.cell? x = w.cell? x := World.cell?_of_block (w := w) h
theorem World.frozen_of_block {w w' : World} {x : Addr} (h : w'.heap[x.block]? = w.heap[x.block]?) : w'.frozen? x = w.frozen? x := World.frozen?_of_block (w := w) h

/-- Only the count of draws has turned. -/
theorem Sat1.drew (h : Sat1 w0 M N V bs S a w) (n : Nat) : Sat1 w0 M N V bs S a { w with drawn := n } :=
  ⟨⟨h.keep.os, h.keep.tape, h.keep.output, h.keep.size, h.keep.block⟩, h.view, h.apart, h.inj, h.fresh, h.par, h.ml, h.dom, h.rows, h.tmps, h.defers, h.nt⟩

/-- A new block. -/
theorem Sat1.alloc (h : Sat1 w0 M N V bs S a w) {p : Nat} (hp : S.L p = none) (hp2 : 1000 ≤ p) {r : Row} {o : Obj} {n : Nat}
    (hr : RowSat V bs (w.alloc o) w.heap.size n r) : Sat1 w0 M N V (upd bs p (some (w.heap.size, n))) { S with L := upd S.L p (some r) } a (w.alloc o) := by
  have hbp := h.dom p hp
  have hb : ∀ q x, bs q = some x → upd bs p (some (w.heap.size, n)) q = some x := fun q x hq => by
    rw [upd_ne]; exact hq
    rintro rfl; rw [hbp] at hq; simp at hq
  have hold : ∀ k, k < w.heap.size → (w.alloc o).heap[k]? = w.heap[k]? := fun k hk => Below.heap_alloc w o k hk
  refine ⟨h.keep.trans ⟨rfl, rfl, rfl, by simp, fun k hk _ => hold k hk⟩, fun x v hx => ?_, fun x v q b m hx hq => ?_, ?_, ?_, fun q r' hq hlt hmv => ?_, h.ml, ?_, ?_, fun t => (h.tmps t).mono (View.le.refl V) hb, h.defers, h.nt⟩
  · have := h.view x v hx
    rw [World.cell_of_block (hold _ (World.block_lt_of_cell? _ _ this))]; exact this
  · by_cases hqp : q = p
    · subst hqp; simp at hq; obtain ⟨rfl, rfl⟩ := hq
      have := World.block_lt_of_cell? _ _ (h.view x v hx); omega
    · rw [upd_ne _ _ _ _ hqp] at hq; exact h.apart x v q b m hx hq
  · intro q q' b m m' h1 h2
    by_cases e1 : q = p <;> by_cases e2 : q' = p
    · rw [e1, e2]
    · subst e1; simp at h1; rw [upd_ne _ _ _ _ e2] at h2
      have := (h.fresh _ _ _ h2).2; omega
    · subst e2; simp at h2; rw [upd_ne _ _ _ _ e1] at h1
      have := (h.fresh _ _ _ h1).2; omega
    · rw [upd_ne _ _ _ _ e1] at h1; rw [upd_ne _ _ _ _ e2] at h2; exact h.inj _ _ _ _ _ h1 h2
  · intro q b m hq
    by_cases e1 : q = p
    · subst e1; simp at hq; obtain ⟨rfl, rfl⟩ := hq
      exact ⟨.inl h.keep.size, by simp⟩
    · rw [upd_ne _ _ _ _ e1] at hq
      have := h.fresh _ _ _ hq
      exact ⟨this.1, by simp; omega⟩
  · have e1 : q ≠ p := by have := h.ml; omega
    simp only [upd_ne _ _ _ _ e1] at hq ⊢
    exact h.par q r' hq hlt hmv
  · intro q hq
    by_cases e1 : q = p
    · subst e1; simp at hq
    · simp only [upd_ne _ _ _ _ e1] at hq ⊢; exact h.dom q hq
  · intro q r' hq
    by_cases e1 : q = p
    · subst e1; simp at hq; subst hq
      exact .inl ⟨_, _, by simp, hr.mono (View.le.refl V) hb (fun _ => rfl) (fun _ => rfl)⟩
    · simp only [upd_ne _ _ _ _ e1] at hq ⊢
      refine (h.rows q r' hq).imp (fun ⟨b, m, h1, h2⟩ => ⟨b, m, h1, h2.mono (View.le.refl V) hb (fun j => ?_) (fun j => ?_)⟩) id
      · exact World.cell_of_block (hold _ (h.fresh _ _ _ h1).2)
      · exact World.frozen_of_block (hold _ (h.fresh _ _ _ h1).2)

/-- Cells of one block have been written. -/
structure Wrote (b : Nat) (w w' : World) : Prop where
  os : w'.os = w.os
  tape : w'.tape = w.tape
  output : w'.output = w.output
  size : w'.heap.size = w.heap.size
  other : ∀ k, k ≠ b → w'.heap[k]? = w.heap[k]?
  frozen : ∀ x, w'.frozen? x = w.frozen? x

theorem run_storeCells : ∀ (us : List Value) (w : World) (b o i : Nat), (∀ j, j < us.length → (w.cell? ⟨b, o + (i + j), none⟩).isSome ∧ w.frozen? ⟨b, o + (i + j), none⟩ = false) → (∀ u ∈ us, u.oneCell' = true) →
    ∃ w', (storeCells ⟨b, o, none⟩ us i).run P w = .ok () w' ∧ Wrote b w w' ∧ (∀ j u, us[j]? = some u → w'.cell? ⟨b, o + (i + j), none⟩ = some u) ∧
      ∀ j, (j < o + i ∨ o + i + us.length ≤ j) → w'.cell? ⟨b, j, none⟩ = w.cell? ⟨b, j, none⟩
  | [], w, b, o, i, _, _ => ⟨w, by simp [storeCells], ⟨rfl, rfl, rfl, rfl, fun _ _ => rfl, fun _ => rfl⟩, fun j u h => by simp at h, fun _ _ => rfl⟩
  | u :: us, w, b, o, i, hex, hone => by
    obtain ⟨h1, h2⟩ := hex 0 (by simp)
    simp only [Nat.add_zero] at h1 h2
    obtain ⟨old, hold⟩ := Option.isSome_iff_exists.1 h1
    have hsame := World.cell?_setCell_same w ⟨b, o + i, none⟩ u hold
    have hoth : ∀ j, j ≠ o + i → (w.setCell ⟨b, o + i, none⟩ u).cell? ⟨b, j, none⟩ = w.cell? ⟨b, j, none⟩ := fun j hj =>
      World.cell?_setCell_other _ _ _ _ (by intro h; injection h with _ h; exact hj h.symm)
    obtain ⟨w', h3, h4, h5, h6⟩ := run_storeCells us (w.setCell ⟨b, o + i, none⟩ u) b o (i + 1) (fun j hj => by
      have := hex (j + 1) (by simp; omega)
      rw [show o + (i + 1 + j) = o + (i + (j + 1)) by omega]
      rw [hoth _ (by omega), World.frozen?_setCell]; exact this) (fun x hx => hone x (by simp [hx]))
    refine ⟨w', ?_, ?_, ?_, ?_⟩
    · simp only [storeCells, Sem.run_bind, add_eq]
      rw [run_store P w _ u _ (hone u (by simp))]
      simp only [hold, h2]
      simpa using h3
    · refine ⟨h4.os, h4.tape, h4.output, by rw [h4.size]; simp, fun k hk => ?_, fun x => by rw [h4.frozen, World.frozen?_setCell]⟩
      rw [h4.other k hk]; exact Below.heap_setCell _ _ _ _ hk
    · intro j x hj
      cases j with
      | zero =>
        simp at hj; subst hj
        rw [h6 _ (.inl (by omega))]; simpa using hsame
      | succ j =>
        have := h5 j x (by simpa using hj)
        rwa [show o + (i + 1 + j) = o + (i + (j + 1)) by omega] at this
    · intro j hj
      rw [h6 j (by simp only [List.length_cons] at hj; omega)]
      exact hoth j (by simp only [List.length_cons] at hj; omega)

/-- A row of the state's own has been written. -/
theorem Sat1.wrote (h : Sat1 w0 M N V bs S a w) {p b n : Nat} (hb : bs p = some (b, n)) {w' : World} (hw : Wrote b w w') {r : Row} (hr : RowSat V bs w' b n r) :
    Sat1 w0 M N V bs { S with L := upd S.L p (some r) } a w' := by
  have hf := h.fresh _ _ _ hb
  refine ⟨⟨hw.os.trans h.keep.os, hw.tape.trans h.keep.tape, hw.output.trans h.keep.output, by rw [hw.size]; exact h.keep.size, fun k hk hm => ?_⟩, fun x v hx => ?_, h.apart, h.inj, fun q c m hq => ?_, fun q r' hq hlt hmv => ?_, h.ml, fun q hq => ?_, fun q r' hq => ?_, h.tmps, h.defers, h.nt⟩
  · have hne : k ≠ b := by
      rintro rfl
      rcases hf.1 with h1 | h1
      · omega
      · exact hm (mem_blks h1)
    rw [hw.other k hne]; exact h.keep.block k hk hm
  · rw [World.cell_of_block (hw.other _ (h.apart _ _ _ _ _ hx hb))]; exact h.view x v hx
  · rw [hw.size]; exact h.fresh _ _ _ hq
  · by_cases e1 : q = p
    · subst e1
      have hn : S.L q ≠ none := fun hn => by rw [h.dom q hn] at hb; simp at hb
      obtain ⟨r0, hr0⟩ := Option.ne_none_iff_exists'.1 hn
      exact h.par q r0 hr0 hlt hmv
    · simp only [upd_ne _ _ _ _ e1] at hq; exact h.par q r' hq hlt hmv
  · by_cases e1 : q = p
    · subst e1; simp at hq
    · simp only [upd_ne _ _ _ _ e1] at hq; exact h.dom q hq
  · by_cases e1 : q = p
    · subst e1; simp at hq; subst hq; exact .inl ⟨b, n, hb, hr⟩
    · simp only [upd_ne _ _ _ _ e1] at hq
      refine (h.rows q r' hq).imp (fun ⟨c, m, h1, h2⟩ => ⟨c, m, h1, ?_⟩) id
      have hne : c ≠ b := fun e => e1 (h.inj q p c m n h1 (e ▸ hb))
      exact h2.mono (View.le.refl V) (fun _ _ h => h) (fun j => World.cell_of_block (hw.other _ hne)) (fun j => hw.frozen _)
end
end Go.Proofs.Ytoklfidamhigcaa.D
