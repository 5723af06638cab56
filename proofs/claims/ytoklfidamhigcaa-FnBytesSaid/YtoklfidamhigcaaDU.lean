/- A function's contract, out of its code. -/
import Derived.Test.YtoklfidamhigcaaDS
namespace Go.Proofs.Ytoklfidamhigcaa.D
open Go.RowKit

section
variable {P : Program} (tb : Tab P) {w0 : World} {M : Rows0} {N : Nat} {V V0 : View} {bs : Loc} {S : St} {a : Act} {w : World}

theorem resD_ok (hs : Sat1 w0 M N V bs S a w) : ∀ (rs : List ResultVar) {K : List SV → Prop}, resD tb.tb S rs K → ∃ svs vals, K svs ∧ Args V bs svs vals ∧
    (rs.mapM fun | .tmp t => pure (a.tmps.getD t undef) | .cell x t => do loadVar t (← asAddr (a.tmps.getD x undef)) : Sem (List Value)).run P w = .ok vals w
  | [], K, h => ⟨[], [], h, ⟨rfl, fun i sv v h => by simp at h⟩, by simp⟩
  | .tmp t :: rs, K, h => by
    simp only [resD] at h
    obtain ⟨svs, vals, h1, h2, h3⟩ := resD_ok hs rs h
    refine ⟨_, a.tmps.getD t undef :: vals, h1, ⟨by simp [h2.len], fun i sv v h4 h5 => ?_⟩, ?_⟩
    · cases i with
      | zero => simp only [List.getElem?_cons_zero, Option.some.injEq] at h4 h5; subst h4; subst h5; exact hs.tmps t
      | succ i => exact h2.get i sv v (by simpa using h4) (by simpa using h5)
    · simp only [List.mapM_cons, Sem.run_bind, Sem.run_pure, Result.andThen_ok, h3]
  | .cell x ty :: rs, K, h => by
    simp only [resD] at h
    split at h
    · rename_i i c hi hx
      split at h
      · rename_i cs o hc
        have e1 := hs.tmps x; rw [hx] at e1; have e1 := vr_one e1
        obtain ⟨b, base, hv, hcell⟩ := ptrCells_ok hs e1 hc
        obtain ⟨sv, v, hK, hvr, hr⟩ := loadVar_ok (tb.ok _ _ hi) hcell h
        obtain ⟨svs, vals, h1, h2, h3⟩ := resD_ok hs rs hK
        refine ⟨_, v :: vals, h1, ⟨by simp [h2.len], fun i sv' v' h4 h5 => ?_⟩, ?_⟩
        · cases i with
          | zero => simp at h4 h5; subst h4; subst h5; exact hvr
          | succ i => exact h2.get i sv' v' (by simpa using h4) (by simpa using h5)
        · have has : (asAddr (a.tmps.getD x undef)).run P w = .ok ⟨b, base + o, none⟩ w := by rw [hv]; rfl
          simp only [List.mapM_cons, Sem.run_bind, Sem.run_pure, Result.andThen_ok, has, hr, h3]
      · exact h.elim
    · exact h.elim

theorem pairsS_ok : ∀ (svs : List SV) (vals : List Value) (ps : List (Bool × List CV)), Args V bs svs vals → pairsS svs = some ps → ps.length = vals.length ∧
    ∀ (i : Nat) b cs u, ps[i]? = some (b, cs) → vals[i]? = some u → (b = true ∧ ∃ us, u = .agg us.toArray ∧ CRs V bs cs us) ∨ (b = false ∧ ∃ c, cs = [c] ∧ CR V bs c u)
  | [], vals, ps, hA, h => by
    simp [pairsS] at h; subst h
    exact ⟨by have := hA.len; simpa using this, fun i b cs u h => by simp at h⟩
  | sv :: svs, [], ps, hA, h => by have := hA.len; simp at this
  | sv :: svs, v :: vals, ps, hA, h => by
    simp only [pairsS] at h
    split at h
    · rename_i p ps' hp hps
      simp at h; subst h
      obtain ⟨h1, h2⟩ := pairsS_ok svs vals ps' ⟨by simpa using hA.len, fun i s u h3 h4 => hA.get (i + 1) s u (by simpa using h3) (by simpa using h4)⟩ hps
      refine ⟨by simp [h1], fun i b cs u h3 h4 => ?_⟩
      cases i with
      | zero =>
        simp at h3 h4; subst h4
        have hv := hA.get 0 sv v rfl rfl
        unfold pairS at hp
        split at hp
        · simp at hp; rw [← hp] at h3; simp at h3; obtain ⟨rfl, rfl⟩ := h3
          exact .inr ⟨rfl, _, rfl, vr_one hv⟩
        · simp at hp; rw [← hp] at h3; simp at h3; obtain ⟨rfl, rfl⟩ := h3
          cases hv with
          | agg hc => exact .inl ⟨rfl, _, rfl, hc⟩
        · simp at hp
      | succ i => exact h2 i b cs u (by simpa using h3) (by simpa using h4)
    · simp at h

theorem joinD_ok {svs : List SV} {vals : List Value} {K : SV → Prop} (hA : Args V bs svs vals) (h : joinD svs K) : ∃ sv, K sv ∧ VR V bs sv (if h : vals.toArray.size = 1 then vals.toArray[0] else .tuple vals.toArray) := by
  unfold joinD at h
  split at h
  · rename_i sv
    match vals, hA with
    | [v], hA => exact ⟨sv, h, by simpa using hA.get 0 sv v rfl rfl⟩
    | [], hA => have := hA.len; simp at this
    | _ :: _ :: _, hA => have := hA.len; simp at this
  · rename_i hne
    split at h
    · rename_i ps hps
      obtain ⟨h1, h2⟩ := pairsS_ok svs vals ps hA hps
      refine ⟨_, h, ?_⟩
      have : ¬ (vals.toArray.size = 1) := fun e => by
        have hl := hA.len
        simp at e; rw [e] at hl
        match svs, hl with
        | [s], _ => exact hne s rfl
      rw [dif_neg this]
      exact .tup h1 h2
    · exact h.elim

section
variable {ps : List Nat} {V1 Vc : View} {bs1 : Loc} (hs : Sat1 w0 M N V bs S a w) (hbs1 : ∀ (i : Nat) p, ps[i]? = some p → bs1 i = bs p) (hV : V.le V1)
  (hcov : ∀ p b n, p ∉ ps → bs p = some (b, n) → ∀ x u, x.block = b → w.cell? x = some u → V1 x = some u)
  (hcovc : ∀ p b n, p ∉ ps → bs p = some (b, n) → ∀ x u, x.block = b → w.cell? x = some u → Vc x = some u)
include hs hbs1 hV hcov hcovc
theorem argC_both {c : CV} {v : Value} {K : CV → Prop} (hc : CR V bs c v) (h : argC true S ps c K) : ∃ c', K c' ∧ CR V1 bs1 c' v ∧ (cleanC S ps c → CR Vc bs1 c' v) := by
  unfold argC at h
  split at h
  · cases hc; rename_i hr; exact ⟨_, h, .dv (hr.mono hV), fun hf => .dv (flatD_rd hr hf)⟩
  · cases hc; exact ⟨_, h, .nil, fun _ => .nil⟩
  · cases hc; rename_i h1 h2; exact ⟨_, h, .dp (fun j hj => hV _ _ (h1 j hj)) (fun j hj => (h2 j hj).mono hV), fun hf => hf.elim⟩
  · split at h
    · rename_i i hi
      cases hc; rename_i hb; exact ⟨_, h, .ptr (by rw [hbs1 _ _ (idxOf_get hi)]; exact hb), fun _ => .ptr (by rw [hbs1 _ _ (idxOf_get hi)]; exact hb)⟩
    · exact h.elim
  · split at h
    · rename_i i hi
      cases hc; rename_i hb; exact ⟨_, h, .ep (by rw [hbs1 _ _ (idxOf_get hi)]; exact hb), fun _ => .ep (by rw [hbs1 _ _ (idxOf_get hi)]; exact hb)⟩
    · exact h.elim
  · split at h
    · rename_i i hi
      cases hc with
      | os hb hl hcap => exact ⟨_, h, .os (by rw [hbs1 _ _ (idxOf_get hi)]; exact hb) hl hcap, fun _ => .os (by rw [hbs1 _ _ (idxOf_get hi)]; exact hb) hl hcap⟩
      | oszero => exact ⟨_, h, .oszero, fun _ => .oszero⟩
    · rename_i p k off len _ hi
      split at h
      · rename_i k' es hL
        obtain ⟨⟨_, rfl, hle⟩, h⟩ := h
        refine ⟨_, h, .dv (own_rd hs hL (fun _ _ _ _ _ h => h.mono hV) (fun b n hbn => hcov _ b n (idxOf_none hi) hbn) hc hle), fun hf => .dv (own_rd hs hL (fun e he d hd v hr => flatD_rd hr ?_) (fun b n hbn => hcovc _ b n (idxOf_none hi) hbn) hc hle)⟩
        rcases hf with hf | hf
        · exact absurd hf (idxOf_none hi)
        · rw [hL] at hf; exact hf e he d hd
      · exact h.elim
  · exact h.elim
  · exact ⟨_, h, .dead _, fun _ => .dead _⟩
theorem argCs_both {cs : List CV} {vs : List Value} (hc : CRs V bs cs vs) : ∀ {K : List CV → Prop}, argCs true S ps cs K → ∃ cs', K cs' ∧ CRs V1 bs1 cs' vs ∧ ((∀ c ∈ cs, cleanC S ps c) → CRs Vc bs1 cs' vs) := by
  induction hc with
  | nil => intro K h; exact ⟨[], h, .nil, fun _ => .nil⟩
  | cons hcv _ ih =>
    intro K h
    obtain ⟨c', h, h1, h1'⟩ := argC_both hs hbs1 hV hcov hcovc hcv h
    obtain ⟨cs', h, h2, h2'⟩ := ih h
    exact ⟨_, h, .cons h1 h2, fun hf => .cons (h1' (hf _ (List.mem_cons_self ..))) (h2' fun c hm => hf c (List.mem_cons_of_mem _ hm))⟩
theorem argPs_both : ∀ {qs : List (Bool × List CV)} {vs : List Value} {K : List (Bool × List CV) → Prop}, qs.length = vs.length →
    (∀ (i : Nat) b cs u, qs[i]? = some (b, cs) → vs[i]? = some u → (b = true ∧ ∃ us, u = .agg us.toArray ∧ CRs V bs cs us) ∨ (b = false ∧ ∃ c, cs = [c] ∧ CR V bs c u)) → argPs S ps qs K →
    ∃ qs', K qs' ∧ (qs'.length = vs.length ∧ ∀ (i : Nat) b cs u, qs'[i]? = some (b, cs) → vs[i]? = some u → (b = true ∧ ∃ us, u = .agg us.toArray ∧ CRs V1 bs1 cs us) ∨ (b = false ∧ ∃ c, cs = [c] ∧ CR V1 bs1 c u)) ∧
      ((∀ p ∈ qs, ∀ c ∈ p.2, cleanC S ps c) → (∀ (i : Nat) b cs u, qs'[i]? = some (b, cs) → vs[i]? = some u → (b = true ∧ ∃ us, u = .agg us.toArray ∧ CRs Vc bs1 cs us) ∨ (b = false ∧ ∃ c, cs = [c] ∧ CR Vc bs1 c u)))
  | [], vs, K, hl, _, h => ⟨[], h, ⟨hl, fun i b cs u h1 => by simp at h1⟩, fun _ i b cs u h1 => by simp at h1⟩
  | (b, cs) :: qs, [], K, hl, _, h => by simp at hl
  | (b, cs) :: qs, v :: vs, K, hl, hr, h => by
    have h0 := hr 0 b cs v rfl rfl
    have one : ∃ cs', argPs S ps qs (fun ps' => K ((b, cs') :: ps')) ∧ ((b = true ∧ ∃ us, v = .agg us.toArray ∧ CRs V1 bs1 cs' us) ∨ (b = false ∧ ∃ c, cs' = [c] ∧ CR V1 bs1 c v)) ∧
        ((∀ c ∈ cs, cleanC S ps c) → (b = true ∧ ∃ us, v = .agg us.toArray ∧ CRs Vc bs1 cs' us) ∨ (b = false ∧ ∃ c, cs' = [c] ∧ CR Vc bs1 c v)) := by
      rcases h0 with ⟨hb, us, rfl, hc⟩ | ⟨hb, c, rfl, hc⟩
      · obtain ⟨cs', g1, g2, g3⟩ := argCs_both hs hbs1 hV hcov hcovc hc h
        exact ⟨cs', g1, .inl ⟨hb, us, rfl, g2⟩, fun hf => .inl ⟨hb, us, rfl, g3 hf⟩⟩
      · simp only [argPs, argCs] at h
        obtain ⟨c', g1, g2, g3⟩ := argC_both hs hbs1 hV hcov hcovc hc h
        exact ⟨[c'], g1, .inr ⟨hb, c', rfl, g2⟩, fun hf => .inr ⟨hb, c', rfl, g3 (hf c (by simp))⟩⟩
    obtain ⟨cs', h, h1, h1'⟩ := one
    obtain ⟨qs', h, ⟨h2, h3⟩, h4⟩ := argPs_both (qs := qs) (vs := vs) (by simpa using hl) (fun i b cs u g1 g2 => hr (i + 1) b cs u (by simpa using g1) (by simpa using g2)) h
    refine ⟨_, h, ⟨by simp [h2], fun i b' cs2 u g1 g2 => ?_⟩, fun hf i b' cs2 u g1 g2 => ?_⟩
    · cases i with
      | zero => simp at g1 g2; obtain ⟨rfl, rfl⟩ := g1; subst g2; exact h1
      | succ i => exact h3 i b' cs2 u (by simpa using g1) (by simpa using g2)
    · cases i with
      | zero => simp at g1 g2; obtain ⟨rfl, rfl⟩ := g1; subst g2; exact h1' (hf _ (List.mem_cons_self ..))
      | succ i => exact h4 (fun p hp => hf p (List.mem_cons_of_mem _ hp)) i b' cs2 u (by simpa using g1) (by simpa using g2)
theorem argR_both {sv : SV} {v : Value} {K : SV → Prop} (hc : VR V bs sv v) (h : argR S ps sv K) : ∃ sv', K sv' ∧ VR V1 bs1 sv' v ∧ (cleanS S ps sv → VR Vc bs1 sv' v) := by
  cases hc with
  | one hc => obtain ⟨c', g1, g2, g3⟩ := argC_both hs hbs1 hV hcov hcovc (K := fun c' => K (.one c')) hc h; exact ⟨_, g1, .one g2, fun hf => .one (g3 hf)⟩
  | agg hc => obtain ⟨c', g1, g2, g3⟩ := argCs_both hs hbs1 hV hcov hcovc (K := fun c' => K (.agg c')) hc h; exact ⟨_, g1, .agg g2, fun hf => .agg (g3 hf)⟩
  | tup hl hr => obtain ⟨qs', g1, ⟨g2, g3⟩, g4⟩ := argPs_both hs hbs1 hV hcov hcovc (K := fun ps' => K (.tup ps')) hl hr h; exact ⟨_, g1, .tup g2 g3, fun hf => .tup g2 (g4 hf)⟩
theorem rowsD_both : ∀ {qs : List Nat} {K : List Row → Prop}, rowsD true S ps qs K → ∃ rs, K rs ∧ rs.length = qs.length ∧
    ∀ (i : Nat) q r, qs[i]? = some q → rs[i]? = some r → S.L q ≠ none ∧ ((∃ b n, bs q = some (b, n) ∧ RowSat V1 bs1 w b n r ∧ ((∀ r0, S.L q = some r0 → cleanR S ps r0) → RowSat Vc bs1 w b n r)) ∨ (bs q = none ∧ ∃ k, r = .own k []))
  | [], K, h => ⟨[], h, rfl, fun i q r h1 => by simp at h1⟩
  | q :: qs, K, h => by
    simp only [rowsD] at h
    split at h
    · rename_i k es hL
      obtain ⟨rs, h, h1, h2⟩ := rowsD_both h
      refine ⟨_, h, by simp [h1], fun i q' r h3 h4 => ?_⟩
      cases i with
      | zero =>
        simp at h3 h4; subst h3; subst h4
        refine ⟨by rw [hL]; simp, (hs.rows _ _ hL).imp (fun ⟨b, n, h5, h6⟩ => ⟨b, n, h5, ?_, fun hf => ?_⟩) id⟩
        · obtain ⟨g1, g2, g3, g4⟩ := h6
          exact ⟨g1, g2, g3, fun i j hi hj => by obtain ⟨v, g5, g6⟩ := g4 i j hi hj; exact ⟨v, g5, g6.mono hV⟩⟩
        · obtain ⟨g1, g2, g3, g4⟩ := h6
          have hf := hf _ hL
          exact ⟨g1, g2, g3, fun i j hi hj => by obtain ⟨v, g5, g6⟩ := g4 i j hi hj; exact ⟨v, g5, flatD_rd g6 (hf _ (List.getElem_mem hi) _ (List.getElem_mem hj))⟩⟩
      | succ i => exact h2 i q' r (by simpa using h3) (by simpa using h4)
    · rename_i cs hL
      rcases hs.rows _ _ hL with ⟨b, n, h5, g1, g2, vs, g3, g4⟩ | ⟨_, k, hk⟩
      · obtain ⟨cs', h, g5, g5'⟩ := argCs_both hs hbs1 hV hcov hcovc g3 h
        obtain ⟨rs, h, h1, h2⟩ := rowsD_both h
        refine ⟨_, h, by simp [h1], fun i q' r h3 h4 => ?_⟩
        cases i with
        | zero =>
          simp at h3 h4; subst h3; subst h4
          refine ⟨by rw [hL]; simp, .inl ⟨b, n, h5, ⟨by rw [g1, g3.length, g5.length], g2, vs, g5, g4⟩, fun hf => ?_⟩⟩
          have g6 := g5' (hf _ hL)
          exact ⟨by rw [g1, g3.length, g6.length], g2, vs, g6, g4⟩
        | succ i => exact h2 i q' r (by simpa using h3) (by simpa using h4)
      · simp at hk
    · exact h.elim
end

open Classical in
theorem finD_ok (hs : Sat1 w0 M N V bs S a w) {sv : SV} {v : Value} (hv : VR V bs sv v) {n : Nat} (hM : M.length = n) {mv : List Nat} {cl : Bool} {Post : SV → List Row → Prop} (h : finD S sv n mv cl Post) :
    ∃ V1 bs1 res Lo, Post res Lo ∧ n ≤ Lo.length ∧ V.le V1 ∧ (∀ x u, V1 x = some u → V x = some u ∨ w0.heap.size ≤ x.block) ∧ SatL w0 M V1 bs1 (Lof Lo) w mv ∧ VR V1 bs1 res v ∧ (cl = true → Clean w0 M V1 bs1 Lo w mv res v) := by
  obtain ⟨zs, sv', out, ⟨hz, hw, hmm⟩, ⟨hnd, htk⟩, hcl, h⟩ := h
  have hv := wkS_ok hv hw
  have hs := hs.empties hz
  generalize S.empties zs = S at hs h hcl hmm
  have hid : ∀ i, i < n → i < out.length → out[i]? = some i := fun i hi hl => by
    have h1 : (out.take n)[i]? = (List.range n)[i]? := by rw [htk]
    rw [List.getElem?_take, if_pos hi] at h1
    rw [h1]; simp [hi]
  have hnl : n ≤ out.length := by
    have := congrArg List.length htk
    simp at this; omega
  let Vc : View := fun x => if ∃ p b m, p ∉ out ∧ bs p = some (b, m) ∧ x.block = b then w.cell? x else none
  let V1 : View := fun x => match V x with | some u => some u | none => Vc x
  have hVc : ∀ x u, Vc x = some u → (∃ p b m, p ∉ out ∧ bs p = some (b, m) ∧ x.block = b) ∧ w.cell? x = some u := fun x u hx => by
    simp only [Vc] at hx
    split at hx
    · rename_i hb; exact ⟨hb, hx⟩
    · simp at hx
  have hV1 : V.le V1 := fun x u hx => by simp only [V1, hx]
  have hV1' : ∀ x u, V1 x = some u → V x = some u ∨ Vc x = some u := fun x u hx => by
    simp only [V1] at hx
    split at hx
    · rename_i y hy; simp at hx; subst hx; exact .inl hy
    · exact .inr hx
  have hV1w : ∀ x u, V1 x = some u → w.cell? x = some u := fun x u hx => (hV1' x u hx).elim (hs.view x u) (fun h => (hVc x u h).2)
  have hcovc : ∀ p b m, p ∉ out → bs p = some (b, m) → ∀ x u, x.block = b → w.cell? x = some u → Vc x = some u := fun p b m hp hbp x u hx hu => by
    simp only [Vc]; rw [if_pos ⟨p, b, m, hp, hbp, hx⟩]; exact hu
  have hcov : ∀ p b m, p ∉ out → bs p = some (b, m) → ∀ x u, x.block = b → w.cell? x = some u → V1 x = some u := fun p b m hp hbp x u hx hu => by
    cases hVx : V x with
    | some y => rw [hV1 _ _ hVx]; rw [hs.view _ _ hVx] at hu; exact hu
    | none => simp only [V1, hVx]; exact hcovc p b m hp hbp x u hx hu
  have hVcV : Vc.le V1 := fun x u hx => by
    obtain ⟨⟨p, b, m, h1, h2, h3⟩, h4⟩ := hVc x u hx
    exact hcov p b m h1 h2 x u h3 h4
  have hfr : ∀ x u, Vc x = some u → w0.heap.size ≤ x.block := fun x u hx => by
    obtain ⟨⟨p, b, m, h1, h2, h3⟩, _⟩ := hVc x u hx
    rw [h3]
    refine (hs.fresh _ _ _ h2).1.resolve_right fun h4 => h1 ?_
    have hp := (List.getElem?_eq_some_iff.1 h4).1
    exact List.mem_of_getElem? (hid p (by omega) (by omega))
  let bs1 : Loc := fun i => match out[i]? with | some p => bs p | none => none
  have hbs1 : ∀ (i : Nat) p, out[i]? = some p → bs1 i = bs p := fun i p hi => by simp only [bs1, hi]
  have hb1 : ∀ i b m, bs1 i = some (b, m) → ∃ p, out[i]? = some p ∧ bs p = some (b, m) := fun i b m hi => by
    simp only [bs1] at hi
    split at hi
    · rename_i p hp; exact ⟨p, hp, hi⟩
    · simp at hi
  obtain ⟨res, h, hr1, hr2⟩ := argR_both hs hbs1 hV1 hcov hcovc hv h
  obtain ⟨Lo, h, hLl, hLi⟩ := rowsD_both hs hbs1 hV1 hcov hcovc h
  have sat : ∀ W : View, W.le V1 → (∀ i q r, out[i]? = some q → Lo[i]? = some r → (∃ b m, bs q = some (b, m) ∧ RowSat W bs1 w b m r) ∨ (bs q = none ∧ ∃ k, r = .own k [])) → SatL w0 M W bs1 (Lof Lo) w mv := fun W hW hrow => by
    refine ⟨hs.keep, fun x u hx => hV1w x u (hW x u hx), fun x u i b m hx hi => ?_, fun i j b m m' hi hj => ?_, fun i b m hi => ?_, fun i r hi hlt hmv => ?_, hs.ml, fun i hi => ?_, fun i r hi => ?_, fun t => by simp; exact .one (.dead _), rfl, rfl⟩
    · obtain ⟨p, hp, hb⟩ := hb1 _ _ _ hi
      rcases hV1' x u (hW x u hx) with h2 | h2
      · exact hs.apart _ _ _ _ _ h2 hb
      · obtain ⟨⟨q, b', m', hq, hbq, hxb⟩, _⟩ := hVc x u h2
        rw [hxb]; rintro rfl
        have := hs.inj _ _ _ _ _ hbq hb; subst this
        exact hq (List.mem_of_getElem? hp)
    · obtain ⟨p, hp, hb⟩ := hb1 _ _ _ hi
      obtain ⟨q, hq, hb'⟩ := hb1 _ _ _ hj
      have := hs.inj _ _ _ _ _ hb hb'; subst this
      exact nodup_inj hnd hp hq
    · obtain ⟨p, hp, hb⟩ := hb1 _ _ _ hi
      have := hs.fresh _ _ _ hb
      refine ⟨this.1.imp id (fun h => ?_), this.2⟩
      have hpl := (List.getElem?_eq_some_iff.1 h).1
      have : i = p := nodup_inj hnd hp (hid p (by omega) (by omega))
      rw [this]; exact h
    · have hil : i < n := by omega
      have hout := hid i hil (by omega)
      rw [hbs1 _ _ hout]
      obtain ⟨r0, hr0⟩ := Option.ne_none_iff_exists'.1 (hLi i _ r hout hi).1
      exact hs.par _ _ hr0 hlt fun hm => hmv (hmm _ hm hil)
    · have : out[i]? = none := by
        have hi : Lo[i]? = none := hi
        rw [List.getElem?_eq_none_iff] at hi ⊢; omega
      simp only [bs1, this]
    · have hil := (List.getElem?_eq_some_iff.1 (show Lo[i]? = some r from hi)).1
      have hp := List.getElem?_eq_getElem (l := out) (show i < out.length by omega)
      rw [hbs1 _ _ hp]
      exact hrow i _ r hp hi
  refine ⟨V1, bs1, res, Lo, h, by omega, hV1, fun x u hx => (hV1' x u hx).imp id (hfr x u), sat V1 (View.le.refl _) (fun i q r h1 h2 => (hLi i q r h1 h2).2.imp (fun ⟨b, m, g1, g2, _⟩ => ⟨b, m, g1, g2⟩) id), hr1, fun hc => ?_⟩
  obtain ⟨hc1, hc2⟩ := hcl hc
  exact ⟨Vc, hVcV, hfr, sat Vc hVcV (fun i q r h1 h2 => (hLi i q r h1 h2).2.imp (fun ⟨b, m, g1, _, g3⟩ => ⟨b, m, g1, g3 fun r0 hr0 => hc2 q (List.mem_of_getElem? h1) r0 hr0⟩) id), hr2 hc1⟩

theorem CallM.of_body {f : FuncId} {fn : Func} {c : Code} {args : List SV} {Li : List Row} {mv : List Nat} {cl : Bool} {Post : SV → List Row → Prop} (hf : P.funcs[f]? = some fn) (hname : (fn.name == "runtime.NumGoroutine") = false) (hb : fn.body = some c)
    (hok : slotsOk fn.ntmps c = true) (hN : args.length ≤ fn.ntmps)
    (h : wpD P tb.tb c ⟨fun t => (args[t]?).getD (.one .dead), Lof Li, []⟩ (retD tb.tb fn.results.toList Li.length mv cl Post)) : CallM P f args Li mv cl Post := by
  refine ⟨⟨fn, hf, hname, by rw [hb]; rfl⟩, fun w M V bs vs hM hL hA => ?_⟩
  refine calls_of_wp hf hb ?_
  have hvl := hA.len
  have hs : Sat w M fn.ntmps V ⟨fun t => (args[t]?).getD (.one .dead), Lof Li, []⟩ { tmps := vs.toArray ++ Array.replicate (fn.ntmps - vs.toArray.size) undef, defers := [] } w := by
    refine ⟨V, bs, View.le.refl V, fun _ _ h => .inl h, hL.ofL (fun t => ?_) rfl (by simp; omega)⟩
    cases ha : args[t]? with
    | none => exact .one (.dead _)
    | some sv =>
      have ht := (List.getElem?_eq_some_iff.1 ha).1
      have hv := List.getElem?_eq_getElem (l := vs) (show t < vs.length by omega)
      have : (vs.toArray ++ Array.replicate (fn.ntmps - vs.toArray.size) undef).getD t undef = vs[t]'(by omega) := by
        have h5 : t < vs.length := by omega
        simp [Array.getD_eq_getD_getElem?, Array.getElem?_append, h5]
      rw [this]
      exact hA.get t sv _ ha hv
  refine wp_mono (wpD_ok tb c _ _ _ _ hok h hs) ?_
  rintro e a' w' ⟨S', h1, V', bs', g1, g2, g3⟩
  have fin : (resD tb.tb S' fn.results.toList fun vs => joinD vs fun sv => finD S' sv Li.length mv cl Post) → a'.defers = [] ∧ ∃ v, (results fn a'.tmps).run P w' = .ok v w' ∧ ∃ v_1 V' bs' res Lo, Ending.returned v = .returned v_1 ∧ Post res Lo ∧ Li.length ≤ Lo.length ∧ V.le V' ∧
      (∀ x u, V' x = some u → V x = some u ∨ w.heap.size ≤ x.block) ∧ SatL w M V' bs' (Lof Lo) w' mv ∧ VR V' bs' res v_1 ∧ (cl = true → Clean w M V' bs' Lo w' mv res v_1) := fun h1 => by
    obtain ⟨svs, vals, h2, h3, h4⟩ := resD_ok tb g3 _ h1
    obtain ⟨sv, h5, h6⟩ := joinD_ok h3 h2
    obtain ⟨V2, bs2, res, Lo, hp, hl, k1, k2, h7, h8, h9⟩ := finD_ok g3 h6 hM h5
    refine ⟨g3.defers, _, ?_, _, V2, bs2, res, Lo, rfl, hp, hl, g1.trans k1, fun x u hx => (k2 x u hx).elim (g2 x u) .inr, h7, h8, h9⟩
    unfold results
    rw [Array.mapM_eq_mapM_toList]
    simp only [Sem.run_bind, Sem.run_map]
    erw [h4]
    rfl
  cases e with
  | normal => exact fin h1
  | ret => exact fin h1
  | _ => exact h1.elim
end
end Go.Proofs.Ytoklfidamhigcaa.D
