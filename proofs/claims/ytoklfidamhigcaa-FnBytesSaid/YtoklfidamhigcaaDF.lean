/- The answers of the operations that touch no memory, or only read it, are the model's. -/
import Derived.Test.YtoklfidamhigcaaDE
namespace Go.Proofs.Ytoklfidamhigcaa.D
open Go.RowKit

section
variable {P : Program} (tb : Tab P) {w0 : World} {M : Rows0} {N : Nat} {V : View} {bs : Loc} {S : St} {a : Act} {w : World}

theorem vr_int {k : IntKind} {n : Int} {v : Value} (h : VR V bs (.one (.dv (.sc (.int k n)))) v) : v = .int k n := by
  cases h with | one h => cases h with | dv h => cases h; rfl
theorem vr_sc {u v : Value} (h : VR V bs (.one (.dv (.sc u))) v) : v = u := by
  cases h with | one h => cases h with | dv h => cases h; rfl
theorem vr_one {c : CV} {v : Value} (h : VR V bs (.one c) v) : CR V bs c v := by
  cases h; assumption

theorem mapInt_ok (hs : Sat1 w0 M N V bs S a w) {x : Operand} {K : IntKind → Int → Prop} (h : mapInt S x K) : ∃ k n, a.eval x = .int k n ∧ K k n := by
  unfold mapInt at h
  split at h
  · rename_i k n he
    have := ev_ok hs.tmps x
    rw [he] at this
    exact ⟨k, n, vr_sc this, h⟩
  · exact h.elim

theorem TyFacts.slice {t : TypeId} {i : TyI} (h : TyFacts P t i) {e : TypeId} (hk : i.kind = .slice e) : P.underlying t = some (.slice e) := by
  obtain ⟨d, hd, h2⟩ := h.desc; rw [hk] at h2
  cases d <;> simp [TK.ok] at h2
  subst h2; exact hd
theorem TyFacts.array {t : TypeId} {i : TyI} (h : TyFacts P t i) {e : TypeId} {n : Nat} (hk : i.kind = .array n e) : P.underlying t = some (.array n e) := by
  obtain ⟨d, hd, h2⟩ := h.desc; rw [hk] at h2
  cases d <;> simp [TK.ok] at h2
  obtain ⟨rfl, rfl⟩ := h2; exact hd
theorem TyFacts.string {t : TypeId} {i : TyI} (h : TyFacts P t i) (hk : i.kind = .string) : P.underlying t = some .string := by
  obtain ⟨d, hd, h2⟩ := h.desc; rw [hk] at h2
  cases d <;> simp [TK.ok] at h2
  exact hd
theorem TyFacts.int {t : TypeId} {i : TyI} (h : TyFacts P t i) {k : IntKind} (hk : i.kind = .int k) : P.underlying t = some (.int k) := by
  obtain ⟨d, hd, h2⟩ := h.desc; rw [hk] at h2
  cases d <;> simp [TK.ok] at h2
  subst h2; exact hd
theorem TyFacts.struct {t : TypeId} {i : TyI} (h : TyFacts P t i) {fs : List (Nat × TypeId)} (hk : i.kind = .struct fs) :
    ∃ fields : Array Field, P.underlying t = some (.struct fields) ∧ ∀ (f : Nat) off ty, fs[f]? = some (off, ty) → ∃ fd : Field, fields[f]? = some fd ∧ fd.offset = off ∧ fd.type = ty ∧ ∃ i, P.info? ty = some i ∧ i.size ≠ 0 := by
  obtain ⟨d, hd, h2⟩ := h.desc; rw [hk] at h2
  cases d <;> simp [TK.ok] at h2
  rename_i fields
  refine ⟨fields, hd, fun f off ty hf => ?_⟩
  obtain ⟨h2, h3⟩ := h2
  rw [h2, List.getElem?_map] at hf
  simp only [Option.map_eq_some_iff, Prod.mk.injEq] at hf
  obtain ⟨fd, hfd, rfl, rfl⟩ := hf
  have hfd' : fields[f]? = some fd := by simpa using hfd
  refine ⟨fd, hfd', rfl, rfl, ?_⟩
  obtain ⟨hlt, he⟩ := Array.getElem?_eq_some_iff.1 hfd'
  have := h3 f hlt
  rw [he] at this
  split at this
  · rename_i i hi; exact ⟨i, hi, by simpa using this⟩
  · simp at this

theorem selD_part {t : TypeId} {i : TyI} (hT : TyFacts P t i) {K : SV → Prop} {cs : List CV} {vs : List Value} {o : Nat} (hc : CRs V bs cs vs) (h : selD i cs o K) (w : World) :
    ∃ sv v, K sv ∧ VR V bs sv v ∧ (part t vs.toArray o).run P w = .ok v w := by
  unfold selD at h
  cases hk : i.kind.agg with
  | true =>
    rw [hk] at h
    obtain ⟨hle, hK⟩ := h
    refine ⟨_, _, hK, .agg ((hc.drop o).take i.size), ?_⟩
    simp [part, hT.run_isAgg, hT.run_sizeOf, hk, List.take_drop]
  | false =>
    rw [hk] at h
    simp only at h
    split at h
    · rename_i c hcc
      obtain ⟨u, h1, h2⟩ := hc.get _ _ hcc
      exact ⟨_, _, h, .one h2, by simp [part, hT.run_isAgg, hk, h1]⟩
    · exact h.elim

theorem fillC_ok : ∀ (ps : List (Nat × SV)) (vs : List (Nat × Value)) (place place' : Nat → Option (Nat × Nat)) (cells cs : List CV) (us : List Value),
    (∀ i x, place i = some x → place' i = some x) → CRs V bs cells us →
    ps.length = vs.length → (∀ (i : Nat) j sv u, ps[i]? = some (j, sv) → vs[i]? = some u → u.1 = j ∧ VR V bs sv u.2) →
    fillC place cells ps = some cs → ∃ us' : List Value, Instr.fill place' us.toArray vs = some us'.toArray ∧ CRs V bs cs us'
  | [], [], _, _, cells, cs, us, _, hc, _, _, h => by
    simp [fillC] at h; subst h
    exact ⟨us, rfl, hc⟩
  | (j, sv) :: ps, (j', u) :: vs, place, place', cells, cs, us, hp, hc, hl, hv, h => by
    obtain ⟨hj, hvr⟩ := hv 0 j sv (j', u) rfl rfl
    simp only at hj; subst hj
    simp only [fillC] at h
    split at h
    · rename_i off size cs' hpl hcs'
      split at h
      · rename_i hcond
        obtain ⟨h1, h2⟩ := hcond
        have hcr := SV.cells_ok hvr hcs'
        have hlen := hcr.length
        have hus := hc.length
        have hfold : ∀ (xs : List Value) (n : Nat) (ys : List Value), off + n + xs.length ≤ ys.length →
            (xs.zipIdx n).foldl (fun (cs : Array Value) (p : Value × Nat) => cs.setIfInBounds (off + p.2) p.1) ys.toArray = (ys.take (off + n) ++ xs ++ ys.drop (off + n + xs.length)).toArray := by
          intro xs
          induction xs with
          | nil => intro n ys _; simp
          | cons x xs ih =>
            intro n ys hle
            simp only [List.length_cons] at hle
            simp only [List.zipIdx_cons, List.foldl_cons, List.setIfInBounds_toArray]
            rw [ih (n + 1) _ (by simp; omega)]
            congr 1
            apply List.ext_getElem?
            intro m
            simp only [List.getElem?_append, List.length_take, List.length_set, List.length_append, List.length_cons, List.getElem?_take, List.getElem?_set, List.getElem?_drop, List.getElem?_cons]
            rcases Nat.lt_trichotomy m (off + n) with hm | hm | hm
            · have e1 : m < min (off + (n + 1)) ys.length := by omega
              have e2 : m < min (off + (n + 1)) ys.length + xs.length := by omega
              have e3 : m < min (off + n) ys.length := by omega
              have e4 : m < min (off + n) ys.length + (xs.length + 1) := by omega
              have e5 : m < off + (n + 1) := by omega
              have e6 : off + n ≠ m := by omega
              simp [e1, e2, e3, e4, e5, e6, hm]
            · subst hm
              have e1 : off + n < min (off + (n + 1)) ys.length := by omega
              have e2 : off + n < min (off + (n + 1)) ys.length + xs.length := by omega
              have e3 : ¬ (off + n < min (off + n) ys.length) := by omega
              have e4 : off + n < min (off + n) ys.length + (xs.length + 1) := by omega
              have e5 : off + n < off + (n + 1) := by omega
              have e6 : off + n - min (off + n) ys.length = 0 := by omega
              have e7 : off + n < ys.length := by omega
              simp [e1, e2, e3, e4, e5, e6, e7]
            · have e1 : ¬ (m < min (off + (n + 1)) ys.length) := by omega
              have e3 : ¬ (m < min (off + n) ys.length) := by omega
              have e6 : off + n ≠ m := by omega
              simp only [e1, e3, if_false]
              by_cases hb : m < min (off + (n + 1)) ys.length + xs.length
              · have hb' : m < min (off + n) ys.length + (xs.length + 1) := by omega
                have e7 : m - min (off + n) ys.length ≠ 0 := by omega
                have e8 : m - min (off + (n + 1)) ys.length = m - min (off + n) ys.length - 1 := by omega
                simp [hb, hb', e7, e8]
              · have hb' : ¬ (m < min (off + n) ys.length + (xs.length + 1)) := by omega
                have e8 : off + (n + 1) + xs.length + (m - (min (off + (n + 1)) ys.length + xs.length)) = m := by omega
                have e9 : off + n + (xs.length + 1) + (m - (min (off + n) ys.length + (xs.length + 1))) = m := by omega
                simp [hb, hb', e8, e9, e6]
        have hsz : u.cells.size = size := by rw [← h1, hlen]; simp
        have hf := hfold u.cells.toList 0 us (by simp; omega)
        have hnext : CRs V bs (cells.take off ++ cs' ++ cells.drop (off + size)) (us.take off ++ u.cells.toList ++ us.drop (off + size)) :=
          ((hc.take off).append hcr).append (hc.drop (off + size))
        obtain ⟨us', h3, h4⟩ := fillC_ok ps vs place place' _ cs _ hp hnext (by simpa using hl) (fun i j sv u h1 h2 => hv (i + 1) j sv u (by simpa using h1) (by simpa using h2)) h
        refine ⟨us', ?_, h4⟩
        simp only [Instr.fill, hp _ _ hpl]
        rw [if_neg]
        · rw [← Array.foldl_toList]
          have hz : (u.cells.zipIdx).toList = u.cells.toList.zipIdx 0 := by simp
          rw [hz]
          simp only [Nat.add_zero] at hf
          have hsz' : u.cells.toList.length = size := by simpa using hsz
          rw [hsz'] at hf
          rw [← h3]
          exact congrArg (fun x => Instr.fill place' x vs) hf
        · simp [hsz]; omega
      · simp at h
    · simp at h
  | [], _ :: _, _, _, _, _, _, _, _, hl, _, _ => by simp at hl
  | _ :: _, [], _, _, _, _, _, _, _, hl, _, _ => by simp at hl

theorem TyFacts.fields {t : TypeId} {i : TyI} (h : TyFacts P t i) {fs : List (Nat × TypeId)} (hk : i.kind = .struct fs) (hc : i.cmp = true) :
    P.underlying t = some (.struct (P.fieldsOf t)) ∧ P.stoodInHeld t = false ∧ P.eqGuardType P.depth t = false ∧ fs = (P.fieldsOf t).toList.map (fun f => (f.offset, f.type)) ∧ ∀ f ∈ (P.fieldsOf t).toList, f.name ≠ "_" := by
  have h1 := h.cmp hc
  simp only [cmpOk, Bool.and_eq_true, Bool.not_eq_true'] at h1
  obtain ⟨⟨h2, h3⟩, h4⟩ := h1
  obtain ⟨d, hd, hk'⟩ := h.desc; rw [hk] at hk'
  cases d <;> simp [TK.ok] at hk'
  have hf : P.fieldsOf t = ‹Array Field› := by simp [Program.fieldsOf, hd]
  rw [hf]
  refine ⟨hd, h3, h2, hk'.1, fun f hm => ?_⟩
  rw [hf] at h4
  have := Array.all_eq_true_iff_forall_mem.1 h4 f (by simpa using hm)
  simpa using this

theorem eqFs_ok (tb : Tab P) (w : World) (d : Nat) {rec : TypeId → SV → SV → (Bool → Prop) → Prop}
    (hrec : ∀ t sv sw u v K, VR V bs sv u → VR V bs sw v → rec t sv sw K → ∃ r, K r ∧ (Op.equalIn d t u v).run P w = .ok r w) {cs ds : List CV} {xs ys : List Value} (hx : CRs V bs cs xs) (hy : CRs V bs ds ys) :
    ∀ (fields : List Field) {K : Bool → Prop}, (∀ f ∈ fields, f.name ≠ "_") → eqFs tb.tb rec (fields.map fun f => (f.offset, f.type)) cs ds K → ∃ r, K r ∧ (Op.eqFields d xs.toArray ys.toArray fields).run P w = .ok r w
  | [], K, _, h => ⟨true, h, by simp [Op.eqFields]⟩
  | f :: fields, K, hn, h => by
    simp only [List.map_cons, eqFs] at h
    split at h
    · rename_i i hi
      obtain ⟨sv, u, h, hu, ru⟩ := selD_part (tb.ok _ _ hi) hx h w
      obtain ⟨sw, v, h, hv, rv⟩ := selD_part (tb.ok _ _ hi) hy h w
      obtain ⟨r, h, rr⟩ := hrec _ _ _ _ _ _ hu hv h
      obtain ⟨r', h, rr'⟩ := eqFs_ok tb w d hrec hx hy fields (fun f hf => hn f (List.mem_cons_of_mem _ hf)) h
      refine ⟨_, h, ?_⟩
      have hnf := hn f (List.mem_cons_self ..)
      simp only [Op.eqFields, if_pos hnf, Sem.run_bind, ru, rv, rr, Result.andThen_ok]
      cases r
      · simp
      · simpa using rr'
    · exact h.elim

theorem eqK_ok (tb : Tab P) (w : World) : ∀ (n d : Nat) (t : TypeId) (sv sw : SV) (u v : Value) (K : Bool → Prop), n ≤ d → VR V bs sv u → VR V bs sw v → eqK tb.tb n t sv sw K → ∃ r, K r ∧ (Op.equalIn d t u v).run P w = .ok r w
  | 0, _, _, _, _, _, _, _, _, _, _, h => h.elim
  | n + 1, 0, _, _, _, _, _, _, hd, _, _, _ => by omega
  | n + 1, d + 1, t, sv, sw, u, v, K, hd, hu, hv, h => by
    simp only [eqK] at h
    split at h
    · rename_i k _ _ _ _ k1 a k2 b h1
      obtain ⟨rfl, h⟩ := h
      rw [vr_sc hu, vr_sc hv]
      exact ⟨_, h, run_equalIn_int w d t k1 k a b ((tb.ok _ _ h1).int rfl)⟩
    · rename_i h1
      rw [vr_sc hu, vr_sc hv]
      exact ⟨_, h, run_equalIn_string w d t _ _ ((tb.ok _ _ h1).string rfl)⟩
    · rename_i h1
      rw [vr_sc hu, vr_sc hv]
      exact ⟨_, h, run_equalIn_bool' w d t _ _ ((tb.ok _ _ h1).bool rfl)⟩
    · rename_i fs _ _ _ cs ds h1
      obtain ⟨g1, g2, g3, g4, g5⟩ := (tb.ok _ _ h1).fields rfl rfl
      cases hu with
      | agg hx =>
        cases hv with
        | agg hy =>
          rw [g4] at h
          obtain ⟨r, hK, hr⟩ := eqFs_ok tb w d (fun t sv sw u v K h1 h2 h3 => eqK_ok tb w n d t sv sw u v K (by omega) h1 h2 h3) hx hy _ g5 h
          exact ⟨r, hK, by rw [run_equalIn_agg w d t _ _ g1 g2]; exact hr⟩
    · exact h.elim
theorem eqK_guard (tb : Tab P) {n : Nat} {t : TypeId} {cs ds : List CV} {K : Bool → Prop} (h : eqK tb.tb n t (.agg cs) (.agg ds) K) : P.eqGuardType P.depth t = false := by
  cases n with
  | zero => exact h.elim
  | succ n =>
    simp only [eqK] at h
    split at h
    · rename_i h1 h2; simp at h1
    · rename_i h1 h2; simp at h1
    · rename_i h1 h2; simp at h1
    · rename_i h1 _ _; exact ((tb.ok _ _ h1).fields rfl rfl).2.2.1
    · exact h.elim
end
end Go.Proofs.Ytoklfidamhigcaa.D
