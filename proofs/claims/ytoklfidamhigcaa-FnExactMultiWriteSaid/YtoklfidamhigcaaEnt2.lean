/- Arguments that are structures, and lists of anything: how they read. -/
import Derived.Test.YtoklfidamhigcaaEnt
namespace Go.Proofs.Ytoklfidamhigcaa.D
open Go.ChangeShapes Go.WideShapes Go.ChangeAt Go.RowKit
open Go.ChangeMaps (open_string)
set_option linter.unusedVariables false
set_option linter.unusedSimpArgs false

abbrev lenMax : Nat := 9223372036854775807
theorem RdL.append {V : View} {as : List Value} {bs : List Value} {da db : List DV} (h : RdL V as da) (k : RdL V bs db) : RdL V (as ++ bs) (da ++ db) := by
  induction h with
  | nil => exact k
  | cons h t ih => exact .cons h ih
theorem RdL.crs {V : View} {b : Loc} {vs : List Value} {ds : List DV} (h : RdL V vs ds) : CRs V b (ds.map .dv) vs := by
  induction h with
  | nil => exact .nil
  | cons h t ih => exact .cons (.dv h) ih
theorem RdL.size {V : View} {vs : List Value} {ds : List DV} (h : RdL V vs ds) : vs.length = ds.length := by
  induction h with
  | nil => rfl
  | cons h t ih => simp [ih]
theorem RdL.getD {V : View} {vs : List Value} {ds : List DV} (h : RdL V vs ds) : ∀ (i : Nat) (h1 : i < vs.length) (h2 : i < ds.length), Rd V vs[i] ds[i] := by
  induction h with
  | nil => intro i h1; simp at h1
  | cons h t ih =>
    intro i h1 h2
    cases i with
    | zero => exact h
    | succ i => exact ih i (by simpa using h1) (by simpa using h2)
section
variable {H : Type} (enc : TypeId × Value → H) (P : Program) (W : World)
/-- What is read of a type is an α, in order. -/
def Opens (t : TypeId) {α : Type} (e : α → List DV) (ok : α → Prop) : Prop :=
  ∀ fuel cs x, DataW.trod enc P W 0 (fun _ => true) true fuel t cs = some x → ∃ a, RdL (cellsV W) cs (e a) ∧ ok a
/-- The same, of fields from a place on. -/
def OpensF (fs : List Field) (o m : Nat) {α : Type} (e : α → List DV) (ok : α → Prop) : Prop :=
  ∀ (fuel : Nat) (cs : List Value), o + m ≤ cs.length → (∀ f ∈ fs, ∃ x, DataW.trod enc P W 0 (fun _ => true) true fuel f.type ((cs.drop f.offset).take (P.cellsOf f.type)) = some x) → ∃ a, RdL (cellsV W) ((cs.drop o).take m) (e a) ∧ ok a
variable {enc P W}
theorem Opens.to {t : TypeId} {α β : Type} {e : α → List DV} {ok : α → Prop} {e2 : β → List DV} {ok2 : β → Prop} (h : Opens enc P W t e ok) (f : α → β) (he : ∀ a, e a = e2 (f a)) (hk : ∀ a, ok a → ok2 (f a)) : Opens enc P W t e2 ok2 := by
  intro fuel cs x hx
  obtain ⟨a, h1, h2⟩ := h fuel cs x hx
  exact ⟨f a, he a ▸ h1, hk a h2⟩
theorem opens_int {t : TypeId} (ht : P.underlying t = some (.int .i64)) : Opens enc P W t inD fun n => -9223372036854775808 ≤ n ∧ n ≤ 9223372036854775807 := by
  intro fuel cs x hx
  obtain ⟨n, rfl, rfl, h⟩ := DataW.trod_int ht hx
  simp [Lit.wf, IntKind.min, IntKind.max, IntKind.bits, IntKind.signed] at h
  exact ⟨n, .cons (.sc _ rfl) .nil, by omega, by omega⟩
theorem opens_u8 {t : TypeId} (ht : P.underlying t = some (.int .u8)) : Opens enc P W t byD fun _ => True := by
  intro fuel cs x hx
  obtain ⟨n, rfl, rfl, h⟩ := DataW.trod_int ht hx
  obtain ⟨b, rfl⟩ := u8_of h
  exact ⟨b, .cons (.sc _ rfl) .nil, trivial⟩
theorem opens_bool {t : TypeId} (ht : P.underlying t = some .bool) : Opens enc P W t (fun b : Bool => [.sc (.bool b)]) fun _ => True := by
  intro fuel cs x hx
  obtain ⟨b, rfl, rfl⟩ := DataW.trod_bool ht hx
  exact ⟨b, .cons (.sc _ rfl) .nil, trivial⟩
theorem opens_string {t : TypeId} (ht : P.underlying t = some .string) : Opens enc P W t (fun l : List UInt8 => [.sc (.string (bs l))]) fun l => l.length ≤ lenMax := by
  intro fuel cs x hx
  obtain ⟨s, rfl, rfl, h⟩ := DataW.trod_string ht hx
  refine ⟨s.data.toList, .cons ?_ .nil, by simpa [maxLen, lenMax] using h⟩
  have : bs s.data.toList = s := by cases s; rfl
  rw [this]
  exact .sc _ rfl
theorem opens_slice {t u : TypeId} {α : Type} {e : α → List DV} {ok : α → Prop} (ht : P.underlying t = some (.slice u)) (hk : 0 < P.cellsOf u) (h : Opens enc P W u e ok) :
    Opens enc P W t (fun l : List α => [.sl (l.map e)]) fun l => l.length ≤ lenMax ∧ ∀ a ∈ l, ok a := by
  intro fuel cs x hx
  rcases DataW.trod_slice ht hx with ⟨rfl, rfl⟩ | ⟨a, len, cap, elems, rest, n, rfl, rfl, rfl, -, hlc, hcm, hel, he, -, -⟩
  · exact ⟨[], .cons (.nil _ _) .nil, by simp, by simp⟩
  · rcases Nat.eq_zero_or_pos len with rfl | hlen
    · exact ⟨[], .cons (.nil _ _) .nil, by simp, by simp⟩
    have hall : ∀ i, i < len → ∃ us, us.length = P.cellsOf u ∧ (∀ j (hj : j < us.length), W.cell? ((a.add (i * P.cellsOf u)).add j) = some us[j]) ∧ ∃ b, RdL (cellsV W) us (e b) ∧ ok b := by
      intro i hi
      have h1 := he i hi
      rw [List.getElem?_eq_getElem (by omega), Option.bind_eq_some_iff] at h1
      obtain ⟨us, h2, h3⟩ := h1
      unfold World.cells? at h2
      rw [if_pos (Nat.zero_le _)] at h2
      have h4 := mapM_some_length h2
      simp at h4
      refine ⟨us, h4, fun j hj => ?_, h _ _ _ h3⟩
      have := mapM_some_get h2 j j (by rw [List.getElem?_range (by omega)])
      rw [this, List.getElem?_eq_getElem]
    have hs : a.spot = none := by
      obtain ⟨us, h1, h2, -⟩ := hall 0 hlen
      have h3 := h2 0 (by omega)
      have h4 : (a.add (0 * P.cellsOf u)).add 0 = a := by simp [Addr.add]
      rw [h4] at h3
      simp only [World.cell?] at h3
      split at h3
      · split at h3
        · simp at h3
        · rename_i h; simpa using h
      · simp at h3
    have hall2 : ∀ i, i < len → ∃ b, ∃ us, us.length = P.cellsOf u ∧ (∀ j (hj : j < us.length), W.cell? ⟨a.block, a.off + i * P.cellsOf u + j, none⟩ = some us[j]) ∧ RdL (cellsV W) us (e b) ∧ ok b := by
      intro i hi
      obtain ⟨us, h1, h2, b, h3, h4⟩ := hall i hi
      refine ⟨b, us, h1, fun j hj => ?_, h3, h4⟩
      rw [← h2 j hj]
      congr 1
      cases a with
      | mk b o s =>
        simp only at hs
        subst hs
        unfold Addr.add
        split
        · rename_i h5
          split
          · rename_i h6
            simp [h5, h6]
          · simp [h5]
        · split
          · rename_i h6
            simp [h6]
          · rfl
    have hf : ∃ (F : Nat → α) (U : Nat → List Value), ∀ i, i < len → (U i).length = P.cellsOf u ∧ (∀ j (hj : j < (U i).length), W.cell? ⟨a.block, a.off + i * P.cellsOf u + j, none⟩ = some (U i)[j]) ∧ RdL (cellsV W) (U i) (e (F i)) ∧ ok (F i) := by
      obtain ⟨b0, -⟩ := hall2 0 hlen
      exact ⟨fun i => if hi : i < len then (hall2 i hi).choose else b0, fun i => if hi : i < len then (hall2 i hi).choose_spec.choose else [], fun i hi => by simp only [dif_pos hi]; exact (hall2 i hi).choose_spec.choose_spec⟩
    obtain ⟨F, U, hFU⟩ := hf
    refine ⟨(List.range len).map F, .cons ?_ .nil, by simp [lenMax]; simp [maxLen] at hcm; omega, fun x hx => by simp at hx; obtain ⟨i, hi, rfl⟩ := hx; exact (hFU i hi).2.2.2⟩
    have := Rd.sl (V := cellsV W) a.block a.off (P.cellsOf u) cap (((List.range len).map F).map e) (fun i j => (U i).getD j (.bool true)) (by simpa using hlc) (fun i hi => by
        simp at hi
        have := hFU i hi
        simp [← this.2.2.1.size, this.1]) (fun i j hi hj => by
        simp at hi
        obtain ⟨h1, h2, -⟩ := hFU i hi
        have := h2 j (by omega)
        show W.cell? _ = _
        rw [this, List.getD_eq_getElem?_getD, List.getElem?_eq_getElem (by omega)]; rfl) (fun i j hi hj => by
        simp at hi
        obtain ⟨h1, h2, h3, -⟩ := hFU i hi
        simp at hj
        have h4 := h3.size
        have := h3.getD j (by omega) hj
        simp only [List.getElem_map, List.getElem_range]
        rw [List.getD_eq_getElem?_getD, List.getElem?_eq_getElem (by omega)]
        exact this)
    simp only [List.length_map, List.length_range] at this
    have ha : (⟨a.block, a.off, none⟩ : Addr) = a := by cases a; simp_all
    rw [ha] at this
    exact this
theorem opensF_nil {o : Nat} : OpensF enc P W [] o 0 (fun _ : Unit => []) fun _ => True := by
  intro fuel cs _ _
  exact ⟨(), by simpa using .nil, trivial⟩
theorem opensF_cons {f : Field} {fs : List Field} {o k m : Nat} {α β : Type} {ea : α → List DV} {oka : α → Prop} {eb : β → List DV} {okb : β → Prop} (ho : f.offset = o) (hc : P.cellsOf f.type = k)
    (ha : Opens enc P W f.type ea oka) (hb : OpensF enc P W fs (o + k) m eb okb) : OpensF enc P W (f :: fs) o (k + m) (fun x : α × β => ea x.1 ++ eb x.2) fun x => oka x.1 ∧ okb x.2 := by
  intro fuel cs hl hx
  obtain ⟨x, h1⟩ := hx f (by simp)
  obtain ⟨a, h2, h3⟩ := ha _ _ _ h1
  obtain ⟨b, h4, h5⟩ := hb fuel cs (by omega) fun g hg => hx g (by simp [hg])
  refine ⟨(a, b), ?_, h3, h5⟩
  rw [ho, hc] at h2
  have := h2.append h4
  have e : (cs.drop o).take (k + m) = (cs.drop o).take k ++ (cs.drop (o + k)).take m := by
    rw [List.take_add, List.drop_drop]
  rw [e]
  exact this
theorem opens_struct {t : TypeId} {fs : Array Field} {m : Nat} {α : Type} {e : α → List DV} {ok : α → Prop} (ht : P.underlying t = some (.struct fs)) (hm : P.cellsOf t = m) (h : OpensF enc P W fs.toList 0 m e ok) : Opens enc P W t e ok := by
  intro fuel cs x hx
  obtain ⟨xs, n, rfl, rfl, hl, hxs, hg⟩ := DataW.trod_struct ht hx
  obtain ⟨a, h1, h2⟩ := h n cs (by omega) fun f hf => by
    obtain ⟨i, hi, rfl⟩ := List.getElem_of_mem hf
    have := hg i fs[i] (by simp at hi; simp [hi])
    refine ⟨xs[i]'(by simp at hi; omega), ?_⟩
    simp at hi ⊢
    rw [this, List.getElem?_eq_getElem]
  refine ⟨a, ?_, h2⟩
  simp only [List.drop_zero] at h1
  rwa [List.take_of_length_le (by omega)] at h1
/-- An argument of one cell. -/
theorem arg_one {t : TypeId} {α : Type} {e : α → DV} {ok : α → Prop} (h : Opens enc P W t (fun a => [e a]) ok) {v : Value} {d : DataW H} {ps : List MemPlace} (hv : v.cells = #[v])
    (hd : DataW.Trod enc P W 0 (fun _ => true) true t v d ps) : ∃ a, VR (cellsV W) (fun _ => none) (.one (.dv (e a))) v ∧ ok a := by
  obtain ⟨fuel, hf⟩ := hd
  obtain ⟨a, h1, h2⟩ := h _ _ _ hf
  rw [hv] at h1
  refine ⟨a, .one (.dv ?_), h2⟩
  cases h1 with
  | cons h1 _ => exact h1
/-- An argument that is a structure. -/
theorem arg_agg {t : TypeId} {fs : Array Field} {α : Type} {e : α → List DV} {ok : α → Prop} (h : Opens enc P W t e ok) {r : Reach} {b0 : Nat} {v : Value} {d : DataW H} {ps : List MemPlace} (ht : P.underlying t = some (.struct fs))
    (hval : Value.okWide P W r b0 t v) (hd : DataW.Trod enc P W 0 (fun _ => true) true t v d ps) : ∃ a, VR (cellsV W) (fun _ => none) (.agg ((e a).map .dv)) v ∧ ok a := by
  obtain ⟨cs, rfl, _⟩ := okWide_struct ht hval
  obtain ⟨fuel, hf⟩ := hd
  obtain ⟨a, h1, h2⟩ := h _ _ _ hf
  refine ⟨a, ?_, h2⟩
  have := VR.agg (V := cellsV W) (bs := fun _ => none) h1.crs
  simpa [Value.cells] using this
theorem arg_slice {t u : TypeId} {α : Type} {e : α → List DV} {ok : α → Prop} (ht : P.underlying t = some (.slice u)) (hk : 0 < P.cellsOf u) (h : Opens enc P W u e ok) {r : Reach} {b0 : Nat} {v : Value} {d : DataW H} {ps : List MemPlace}
    (hval : Value.okWide P W r b0 t v) (hd : DataW.Trod enc P W 0 (fun _ => true) true t v d ps) : ∃ l : List α, VR (cellsV W) (fun _ => none) (.one (.dv (.sl (l.map e)))) v ∧ l.length ≤ lenMax ∧ ∀ a ∈ l, ok a := by
  obtain ⟨a, n, c, rfl⟩ := okWide_slice ht hval
  exact arg_one (e := fun l : List α => .sl (l.map e)) (opens_slice ht hk h) rfl hd
end
end Go.Proofs.Ytoklfidamhigcaa.D
