/- A function's contract, out of its code. -/
import Derived.Test.YtpdjehnlejjfmaaJ3
set_option linter.unusedVariables false
set_option linter.unusedSimpArgs false
namespace Go.Proofs.Ytpdjehnlejjfmaa.D
open Go.RowKit

section
variable {P : Program} (tb : Tab P) {w0 : World} {M : Rows0} {N : Nat} {V V0 : View} {bs : Loc} {S : St} {a : Act} {w : World}

theorem resD_ok (hs : Sat1 w0 M N V bs S a w) : ∀ (rs : List ResultVar) {K : List SV → Prop}, resD tb.tb S rs K → ∃ svs vals, K svs ∧ Args V bs svs vals ∧
  (rs.mapM fun | .tmp t => pure (a.tmps.getD t undef) | .cell x t => do loadVar t (← asAddr (a.tmps.getD x undef)) : Sem (List Value)).run P w = .ok vals w
 | [], K, h => ⟨[], [], h, ⟨rfl, fun i sv v h => by simp at h⟩, by simp⟩
 |.tmp t :: rs, K, h => by
  simp only [resD] at h
  obtain ⟨svs, vals, h1, h2, h3⟩ := resD_ok hs rs h
  refine ⟨_, a.tmps.getD t undef :: vals, h1, ⟨by simp [h2.len], fun i sv v h4 h5 => ?_⟩, ?_⟩
  ·cases i with
   | zero => simp only [List.getElem?_cons_zero, Option.some.injEq] at h4 h5; subst h4; subst h5; exact hs.tmps t
   | succ i => exact h2.get i sv v (by simpa using h4) (by simpa using h5)
  ·simp only [List.mapM_cons, Sem.run_bind, Sem.run_pure, Result.andThen_ok, h3]
 |.cell x ty :: rs, K, h => by
  simp only [resD] at h
  split at h
  ·rename_i i c hi hx
   split at h
   ·rename_i cs o hc
    have e1 := hs.tmps x; rw [hx] at e1; have e1 := vr_one e1
    obtain ⟨b, base, hv, hcell⟩ := ptrCells_ok hs e1 hc
    obtain ⟨sv, v, hK, hvr, hr⟩ := loadVar_ok (tb.ok _ _ hi) hcell h
    obtain ⟨svs, vals, h1, h2, h3⟩ := resD_ok hs rs hK
    refine ⟨_, v :: vals, h1, ⟨by simp [h2.len], fun i sv' v' h4 h5 => ?_⟩, ?_⟩
    ·cases i with
     | zero => simp at h4 h5; subst h4; subst h5; exact hvr
     | succ i => exact h2.get i sv' v' (by simpa using h4) (by simpa using h5)
    ·have has : (asAddr (a.tmps.getD x undef)).run P w = .ok ⟨b, base + o, none⟩ w := by rw [hv]; rfl
     simp only [List.mapM_cons, Sem.run_bind, Sem.run_pure, Result.andThen_ok, has, hr, h3]
   ·exact h.elim
  ·exact h.elim

theorem pairsS_ok : ∀ (svs : List SV) (vals : List Value) (ps : List (Bool × List CV)), Args V bs svs vals → pairsS svs = some ps → ps.length = vals.length ∧
  ∀ (i : Nat) b cs u, ps[i]? = some (b, cs) → vals[i]? = some u → (b = true ∧ ∃ us, u = .agg us.toArray ∧ CRs V bs cs us) ∨ (b = false ∧ ∃ c, cs = [c] ∧ CR V bs c u)
 |[], vals, ps, hA, h => by
  simp [pairsS] at h; subst h
  exact ⟨by have := hA.len; simpa using this, fun i b cs u h => by simp at h⟩
 | sv :: svs, [], ps, hA, h => by have := hA.len; simp at this
 |sv :: svs, v :: vals, ps, hA, h => by
  simp only [pairsS] at h
  split at h
  ·rename_i p ps' hp hps
   simp at h; subst h
   obtain ⟨h1, h2⟩ := pairsS_ok svs vals ps' ⟨by simpa using hA.len, fun i s u h3 h4 => hA.get (i + 1) s u (by simpa using h3) (by simpa using h4)⟩ hps
   refine ⟨by simp [h1], fun i b cs u h3 h4 => ?_⟩
   cases i with
   | zero =>
    simp at h3 h4; subst h4
    have hv := hA.get 0 sv v rfl rfl
    unfold pairS at hp
    split at hp
    ·simp at hp; rw [← hp] at h3; simp at h3; obtain ⟨rfl, rfl⟩ := h3
     exact .inr ⟨rfl, _, rfl, vr_one hv⟩
    ·simp at hp; rw [← hp] at h3; simp at h3; obtain ⟨rfl, rfl⟩ := h3
     cases hv with
     | agg hc => exact .inl ⟨rfl, _, rfl, hc⟩
    ·simp at hp
    ·simp at hp; rw [← hp] at h3; simp at h3; obtain ⟨rfl, rfl⟩ := h3
     cases hv with
     | arr hc => exact .inl ⟨rfl, _, rfl, hc⟩
   | succ i => exact h2 i b cs u (by simpa using h3) (by simpa using h4)
  ·simp at h

theorem joinD_ok {svs : List SV} {vals : List Value} {K : SV → Prop} (hA : Args V bs svs vals) (h : joinD svs K) : ∃ sv, K sv ∧ VR V bs sv (if h : vals.toArray.size = 1 then vals.toArray[0] else .tuple vals.toArray) := by
 unfold joinD at h
 split at h
 ·rename_i sv
  match vals, hA with
  | [v], hA => exact ⟨sv, h, by simpa using hA.get 0 sv v rfl rfl⟩
  | [], hA => have := hA.len; simp at this
  | _ :: _ :: _, hA => have := hA.len; simp at this
 ·rename_i hne
  split at h
  ·rename_i ps hps
   obtain ⟨h1, h2⟩ := pairsS_ok svs vals ps hA hps
   refine ⟨_, h, ?_⟩
   have : ¬ (vals.toArray.size = 1) := fun e => by
    have hl := hA.len
    simp at e; rw [e] at hl
    match svs, hl with
    | [s], _ => exact hne s rfl
   rw [dif_neg this]
   exact .tup h1 h2
  ·exact h.elim

theorem flat_carry {V Vc : View} {d : DV} (hf : flatD d = true) : Carry V Vc d := by
 have key : ∀ d : DV, (match d with | .sc _ => true | .sl es => es.isEmpty | _ => false) = true → ∀ v, Rd V v d → Rd Vc v d := fun d hf v h => by
  cases h with
  | sc _ h => exact .sc _ h
  | nil a c => exact .nil a c
  | sl b o k cap es f hc hk hV hr =>
   simp at hf; subst hf
   exact .nil _ _
 refine ⟨fun v h => ?_, ?_⟩
 ·cases d with
  | sc => exact key _ rfl v h
  | sl es => exact key _ (by simpa [flatD] using hf) v h
  | ow => cases h
  | no => cases h
 ·rintro k off len es rfl e he d' hd v h
  simp only [flatD, List.all_eq_true] at hf
  exact key d' (hf e he d' hd) v h
theorem flatD_rd {V V' : View} {v : Value} {d : DV} (h : Rd V v d) (hf : flatD d = true) : Rd V' v d := (flat_carry hf).1 v h
theorem flat_cell {V Vc : View} {bs bs1 : Loc} {w : World} {nm nm' : Nm} {v : Value} {d : DV} (h : CellR V bs w nm v d) (hf : flatD d = true) (hb : bs1 nm' = bs nm) : CellR Vc bs1 w nm' v d := by
 cases h with
 | rd h => exact .rd (flatD_rd h hf)
 | no _ h => exact .no _ h
 | ow h1 h2 h3 h4 h5 =>
  obtain ⟨g1, g2, g3, g4⟩ := h5
  exact .ow (hb.trans h1) h2 h3 h4 ⟨g1, g2, g3, fun i j hi hj => by
   obtain ⟨v, g5, g6⟩ := g4 i j hi hj
   exact ⟨v, g5, (flat_carry (V := V) (Vc := Vc) hf).2 _ _ _ _ rfl _ (List.getElem_mem _) _ (List.getElem_mem _) v g6⟩⟩
 | ownil a k h => exact .ownil _ _ (hb.trans h)

section
theorem CRs.flat {V Vc : View} {bs bs' : Loc} : ∀ {ds : List DV} {vs : List Value}, CRs V bs (ds.map .dv) vs → (∀ d ∈ ds, flatD d = true) → CRs Vc bs' (ds.map .dv) vs
 | [], _, h, _ => by cases h; exact .nil
 | d :: ds, _, h, hf => by cases h with | cons h t => cases h with | dv h => exact .cons (.dv (flatD_rd h (hf _ (List.mem_cons_self ..)))) (CRs.flat t fun d hd => hf d (List.mem_cons_of_mem _ hd))
variable {ps : List Nm} {V1 Vc : View} {bs1 : Loc} (hs : Sat1 w0 M N V bs S a w) (hbs1 : ∀ nm p, upN ps nm = some p → bs1 nm = bs p) (hV : V.le V1)
 (hcov : ∀ p b n, (∀ cn, upN ps cn ≠ some p) → newN p.top → bs p = some (b, n) → ∀ x u, x.block = b → w.cell? x = some u → V1 x = some u)
 (hcovc : ∀ p b n, (∀ cn, upN ps cn ≠ some p) → newN p.top → bs p = some (b, n) → ∀ x u, x.block = b → w.cell? x = some u → Vc x = some u)
include hs hbs1 hV hcov hcovc
theorem argC_both {c : CV} {v : Value} {K : CV → Prop} (hc : CR V bs c v) (hbn : borN ps c) (h : argC true S ps c K) : ∃ c', K c' ∧ CR V1 bs1 c' v ∧ (cleanC S ps c → CR Vc bs1 c' v) := by
 unfold argC at h
 split at h
 ·cases hc; rename_i hr; exact ⟨_, h, .dv (hr.mono hV), fun hf => .dv (flatD_rd hr hf)⟩
 ·cases hc; exact ⟨_, h, .nil, fun _ => .nil⟩
 ·cases hc; rename_i h1 h2; exact ⟨_, h, .dp (fun j hj => hV _ _ (h1 j hj)) (fun j hj => (h2 j hj).mono hV), fun hf => hf.elim⟩
 ·split at h
  ·rename_i i hi
   cases hc; rename_i hb; exact ⟨_, h, .ptr (by rw [hbs1 (.v i) _ (idxOf_get hi)]; exact hb), fun _ => .ptr (by rw [hbs1 (.v i) _ (idxOf_get hi)]; exact hb)⟩
  ·exact h.elim
 ·split at h
  ·rename_i i hi
   cases hc; rename_i hb; exact ⟨_, h, .ep (by rw [hbs1 _ _ (mapN_up hi)]; exact hb), fun _ => .ep (by rw [hbs1 _ _ (mapN_up hi)]; exact hb)⟩
  ·rename_i hi; exact absurd hi hbn
 ·rename_i p k off len
  split at h
  ·rename_i i hi
   cases hc with
   | os hb hl hcap => exact ⟨_, h, .os (by rw [hbs1 _ _ (mapN_up hi)]; exact hb) hl hcap, fun _ => .os (by rw [hbs1 _ _ (mapN_up hi)]; exact hb) hl hcap⟩
   | oszero => exact ⟨_, h, .oszero, fun _ => .oszero⟩
  ·rename_i hi
   have hnew : newN p.top := by rcases hbn with h1 | h1; exact absurd hi h1; exact h1
   have htop : ∀ q, (q = p ∨ ∃ p' i j, p = .v p' ∧ q = .h p' i j) → newN q.top := fun q hq => by
    rcases hq with rfl | ⟨p', i, j, rfl, rfl⟩
    ·exact hnew
    ·exact hnew
   split at h
   ·rename_i k' es hL
    obtain ⟨xs, ⟨_, rfl, hle, hbo, hf⟩, h⟩ := h
    refine ⟨_, h, .dv (own_rd hs hL hV (fun q hq b n hbn => hcov q b n (mapN_none hi hbo hq) (htop q hq) hbn) hc hle hf), fun hcl => .dv (own_rd' hs hL (fun e he d hd => flat_carry ?_) (fun q hq b n hbn => hcovc q b n (mapN_none hi hbo hq) (htop q hq) hbn) hc hle hf)⟩
    rcases hcl with hcl | hcl
    ·exact absurd hi hcl
    ·rw [hL] at hcl; exact hcl e he d hd
   ·exact h.elim
 ·exact h.elim
 ·exact ⟨_, h, .dead _, fun _ => .dead _⟩
theorem argCs_both {cs : List CV} {vs : List Value} (hc : CRs V bs cs vs) : ∀ {K : List CV → Prop}, (∀ c ∈ cs, borN ps c) → argCs true S ps cs K → ∃ cs', K cs' ∧ CRs V1 bs1 cs' vs ∧ ((∀ c ∈ cs, cleanC S ps c) → CRs Vc bs1 cs' vs) := by
 induction hc with
 | nil => intro K _ h; exact ⟨[], h, .nil, fun _ => .nil⟩
 | cons hcv _ ih =>
  intro K hb h
  obtain ⟨c', h, h1, h1'⟩ := argC_both hs hbs1 hV hcov hcovc hcv (hb _ (List.mem_cons_self ..)) h
  obtain ⟨cs', h, h2, h2'⟩ := ih (fun c hm => hb c (List.mem_cons_of_mem _ hm)) h
  exact ⟨_, h, .cons h1 h2, fun hf => .cons (h1' (hf _ (List.mem_cons_self ..))) (h2' fun c hm => hf c (List.mem_cons_of_mem _ hm))⟩
theorem argPs_both : ∀ {qs : List (Bool × List CV)} {vs : List Value} {K : List (Bool × List CV) → Prop}, qs.length = vs.length →
  (∀ (i : Nat) b cs u, qs[i]? = some (b, cs) → vs[i]? = some u → (b = true ∧ ∃ us, u = .agg us.toArray ∧ CRs V bs cs us) ∨ (b = false ∧ ∃ c, cs = [c] ∧ CR V bs c u)) → (∀ p ∈ qs, ∀ c ∈ p.2, borN ps c) → argPs S ps qs K →
  ∃ qs', K qs' ∧ (qs'.length = vs.length ∧ ∀ (i : Nat) b cs u, qs'[i]? = some (b, cs) → vs[i]? = some u → (b = true ∧ ∃ us, u = .agg us.toArray ∧ CRs V1 bs1 cs us) ∨ (b = false ∧ ∃ c, cs = [c] ∧ CR V1 bs1 c u)) ∧
   ((∀ p ∈ qs, ∀ c ∈ p.2, cleanC S ps c) → (∀ (i : Nat) b cs u, qs'[i]? = some (b, cs) → vs[i]? = some u → (b = true ∧ ∃ us, u = .agg us.toArray ∧ CRs Vc bs1 cs us) ∨ (b = false ∧ ∃ c, cs = [c] ∧ CR Vc bs1 c u)))
 | [], vs, K, hl, _, _, h => ⟨[], h, ⟨hl, fun i b cs u h1 => by simp at h1⟩, fun _ i b cs u h1 => by simp at h1⟩
 | (b, cs) :: qs, [], K, hl, _, _, h => by simp at hl
 |(b, cs) :: qs, v :: vs, K, hl, hr, hbn, h => by
  have h0 := hr 0 b cs v rfl rfl
  have hb0 : ∀ c ∈ cs, borN ps c := hbn _ (List.mem_cons_self ..)
  have one : ∃ cs', argPs S ps qs (fun ps' => K ((b, cs') :: ps')) ∧ ((b = true ∧ ∃ us, v = .agg us.toArray ∧ CRs V1 bs1 cs' us) ∨ (b = false ∧ ∃ c, cs' = [c] ∧ CR V1 bs1 c v)) ∧
    ((∀ c ∈ cs, cleanC S ps c) → (b = true ∧ ∃ us, v = .agg us.toArray ∧ CRs Vc bs1 cs' us) ∨ (b = false ∧ ∃ c, cs' = [c] ∧ CR Vc bs1 c v)) := by
   rcases h0 with ⟨hb, us, rfl, hc⟩ | ⟨hb, c, rfl, hc⟩
   ·obtain ⟨cs', g1, g2, g3⟩ := argCs_both hs hbs1 hV hcov hcovc hc hb0 h
    exact ⟨cs', g1, .inl ⟨hb, us, rfl, g2⟩, fun hf => .inl ⟨hb, us, rfl, g3 hf⟩⟩
   ·simp only [argPs, argCs] at h
    obtain ⟨c', g1, g2, g3⟩ := argC_both hs hbs1 hV hcov hcovc hc (hb0 c (by simp)) h
    exact ⟨[c'], g1, .inr ⟨hb, c', rfl, g2⟩, fun hf => .inr ⟨hb, c', rfl, g3 (hf c (by simp))⟩⟩
  obtain ⟨cs', h, h1, h1'⟩ := one
  obtain ⟨qs', h, ⟨h2, h3⟩, h4⟩ := argPs_both (qs := qs) (vs := vs) (by simpa using hl) (fun i b cs u g1 g2 => hr (i + 1) b cs u (by simpa using g1) (by simpa using g2)) (fun p hp => hbn p (List.mem_cons_of_mem _ hp)) h
  refine ⟨_, h, ⟨by simp [h2], fun i b' cs2 u g1 g2 => ?_⟩, fun hf i b' cs2 u g1 g2 => ?_⟩
  ·cases i with
   | zero => simp at g1 g2; obtain ⟨rfl, rfl⟩ := g1; subst g2; exact h1
   | succ i => exact h3 i b' cs2 u (by simpa using g1) (by simpa using g2)
  ·cases i with
   | zero => simp at g1 g2; obtain ⟨rfl, rfl⟩ := g1; subst g2; exact h1' (hf _ (List.mem_cons_self ..))
   | succ i => exact h4 (fun p hp => hf p (List.mem_cons_of_mem _ hp)) i b' cs2 u (by simpa using g1) (by simpa using g2)
theorem argR_both {sv : SV} {v : Value} {K : SV → Prop} (hc : VR V bs sv v) (hbn : borS ps sv) (h : argR S ps sv K) : ∃ sv', K sv' ∧ VR V1 bs1 sv' v ∧ (cleanS S ps sv → VR Vc bs1 sv' v) := by
 cases hc with
 | one hc => obtain ⟨c', g1, g2, g3⟩ := argC_both hs hbs1 hV hcov hcovc (K := fun c' => K (.one c')) hc hbn h; exact ⟨_, g1, .one g2, fun hf => .one (g3 hf)⟩
 | agg hc => obtain ⟨c', g1, g2, g3⟩ := argCs_both hs hbs1 hV hcov hcovc (K := fun c' => K (.agg c')) hc hbn h; exact ⟨_, g1, .agg g2, fun hf => .agg (g3 hf)⟩
 | arr hc => exact ⟨_, h, .arr (CRs.plain hV hc), fun hf => .arr (CRs.flat hc hf)⟩
 | tup hl hr => obtain ⟨qs', g1, ⟨g2, g3⟩, g4⟩ := argPs_both hs hbs1 hV hcov hcovc (K := fun ps' => K (.tup ps')) hl hr hbn h; exact ⟨_, g1, .tup g2 g3, fun hf => .tup g2 (g4 hf)⟩
theorem rowsD_both : ∀ {qs : List Nat} {i0 : Nat} {K : List Row → Prop}, (∀ i, (qs.map Nm.v)[i]? = ps[i0 + i]?) → (∀ p ∈ qs, ∀ cs, S.L p = some (.box cs) → ∀ c ∈ cs, borN ps c) → rowsD true S ps (qs.map .v) K → ∃ rs, K rs ∧ rs.length = qs.length ∧
  ∀ (i : Nat) q r, qs[i]? = some q → rs[i]? = some r → S.L q ≠ none ∧ ((∃ b n, bs (.v q) = some (b, n) ∧ RowSat V1 bs1 w (i0 + i) b n r ∧ ((∀ r0, S.L q = some r0 → cleanR S ps r0) → RowSat Vc bs1 w (i0 + i) b n r)) ∨ (bs (.v q) = none ∧ ∃ k, r = .own k []))
 | [], _, K, _, _, h => ⟨[], h, rfl, fun i q r h1 => by simp at h1⟩
 |q :: qs, i0, K, hq, hbn, h => by
  have hq0 : ps[i0]? = some (.v q) := by have := hq 0; simpa using this.symm
  have hqs : ∀ i, (qs.map Nm.v)[i]? = ps[(i0 + 1) + i]? := fun i => by have := hq (i + 1); rw [show i0 + (i + 1) = i0 + 1 + i by omega] at this; simpa using this
  have hbh : ∀ i j, bs1 (.h i0 i j) = bs (.h q i j) := fun i j => hbs1 _ _ (by simp only [upN, hq0])
  have fin : ∀ {r : Row}, (S.L q ≠ none ∧ ((∃ b n, bs (.v q) = some (b, n) ∧ RowSat V1 bs1 w i0 b n r ∧ ((∀ r0, S.L q = some r0 → cleanR S ps r0) → RowSat Vc bs1 w i0 b n r)) ∨ (bs (.v q) = none ∧ ∃ k, r = .own k []))) → (rowsD true S ps (qs.map .v) fun rs => K (r :: rs)) → ∃ rs, K rs ∧ rs.length = (q :: qs).length ∧
    ∀ (i : Nat) q' r, (q :: qs)[i]? = some q' → rs[i]? = some r → S.L q' ≠ none ∧ ((∃ b n, bs (.v q') = some (b, n) ∧ RowSat V1 bs1 w (i0 + i) b n r ∧ ((∀ r0, S.L q' = some r0 → cleanR S ps r0) → RowSat Vc bs1 w (i0 + i) b n r)) ∨ (bs (.v q') = none ∧ ∃ k, r = .own k [])) := fun {r} hr h => by
   obtain ⟨rs, h, h1, h2⟩ := rowsD_both (qs := qs) hqs (fun p hp => hbn p (List.mem_cons_of_mem _ hp)) h
   refine ⟨_, h, by simp [h1], fun i q' r' h3 h4 => ?_⟩
   cases i with
   | zero => simp at h3 h4; subst h3; subst h4; exact hr
   | succ i => have := h2 i q' r' (by simpa using h3) (by simpa using h4); rwa [show i0 + 1 + i = i0 + (i + 1) by omega] at this
  simp only [List.map_cons, rowsD] at h
  split at h
  ·rename_i k es hL
   refine fin (r := .own k es) ⟨by rw [hL]; simp, (hs.rows _ _ hL).imp (fun ⟨b, n, h5, h6⟩ => ⟨b, n, h5, ?_, fun hf => ?_⟩) id⟩ h
   ·obtain ⟨g1, g2, g3, g4⟩ := h6
    exact ⟨g1, g2, g3, fun i j hi hj => by obtain ⟨v, g5, g6⟩ := g4 i j hi hj; exact ⟨v, g5, g6.mono hV (hbh i j) (fun _ _ _ => rfl)⟩⟩
   ·obtain ⟨g1, g2, g3, g4⟩ := h6
    have hf := hf _ hL
    exact ⟨g1, g2, g3, fun i j hi hj => by obtain ⟨v, g5, g6⟩ := g4 i j hi hj; exact ⟨v, g5, flat_cell g6 (hf _ (List.getElem_mem hi) _ (List.getElem_mem hj)) (hbh i j)⟩⟩
  ·rename_i cs hL
   rcases hs.rows _ _ hL with ⟨b, n, h5, g1, g2, g0, vs, g3, g4⟩ | ⟨_, k, hk⟩
   ·obtain ⟨cs', h, g5, g5'⟩ := argCs_both hs hbs1 hV hcov hcovc g3 (hbn q (List.mem_cons_self ..) cs hL) h
    refine fin (r := .box cs') ⟨by rw [hL]; simp, .inl ⟨b, n, h5, ⟨by rw [g1, g3.length, g5.length], g2, fun i j => (hbh i j).trans (g0 i j), vs, g5, g4⟩, fun hf => ?_⟩⟩ h
    have g6 := g5' (hf _ hL)
    exact ⟨by rw [g1, g3.length, g6.length], g2, fun i j => (hbh i j).trans (g0 i j), vs, g6, g4⟩
   ·simp at hk
  ·exact h.elim
end

open Classical in
theorem finD_ok (hs : Sat1 w0 M N V bs S a w) {sv : SV} {v : Value} (hv : VR V bs sv v) {n : Nat} (hM : M.n = n) {mv : List Nat} {cl : Bool} {Post : SV → List Row → Prop} (h : finD S sv n mv cl Post) :
  ∃ V1 bs1 res Lo, Post res Lo ∧ n ≤ Lo.length ∧ V.le V1 ∧ (∀ x u, V1 x = some u → V x = some u ∨ w0.heap.size ≤ x.block) ∧ SatL w0 M V1 bs1 (Lof Lo) w mv ∧ VR V1 bs1 res v ∧ (cl = true → Clean w0 M V1 bs1 Lo w mv res v) := by
 obtain ⟨zs, sv', out, ⟨hz, hw, hmm⟩, ⟨hnd, htk, hnewo⟩, hcl, ⟨hbn1, hbn2⟩, h⟩ := h
 have hv := wkS_ok hv hw
 have hs := hs.empties hz
 generalize S.empties zs = S at hs h hcl hmm hbn2
 have hid : ∀ i, i < n → i < out.length → out[i]? = some i := fun i hi hl => by
  have h1 : (out.take n)[i]? = (List.range n)[i]? := by rw [htk]
  rw [List.getElem?_take, if_pos hi] at h1
  rw [h1]; simp [hi]
 have hnl : n ≤ out.length := by
  have := congrArg List.length htk
  simp at this; omega
 have hnw : ∀ i p, n ≤ i → out[i]? = some p → newN p := fun i p hi hp => hnewo p (by
  have : (out.drop n)[i - n]? = some p := by rw [List.getElem?_drop, show n + (i - n) = i by omega]; exact hp
  exact List.mem_of_getElem? this)
 let ps : List Nm := out.map .v
 have hps : ∀ i : Nat, ps[i]? = (out[i]?).map Nm.v := fun i => List.getElem?_map
 have hndp : ps.Nodup := by
  refine List.pairwise_map.2 (hnd.imp fun h e => h (by injection e))
 let Vc : View := fun x => if ∃ p b m, (∀ cn, upN ps cn ≠ some p) ∧ newN p.top ∧ bs p = some (b, m) ∧ x.block = b then w.cell? x else none
 let V1 : View := fun x => match V x with | some u => some u | none => Vc x
 have hVc : ∀ x u, Vc x = some u → (∃ p b m, (∀ cn, upN ps cn ≠ some p) ∧ newN p.top ∧ bs p = some (b, m) ∧ x.block = b) ∧ w.cell? x = some u := fun x u hx => by
  simp only [Vc] at hx
  split at hx
  ·rename_i hb; exact ⟨hb, hx⟩
  ·simp at hx
 have hV1 : V.le V1 := fun x u hx => by simp only [V1, hx]
 have hV1' : ∀ x u, V1 x = some u → V x = some u ∨ Vc x = some u := fun x u hx => by
  simp only [V1] at hx
  split at hx
  ·rename_i y hy; simp at hx; subst hx; exact .inl hy
  ·exact .inr hx
 have hV1w : ∀ x u, V1 x = some u → w.cell? x = some u := fun x u hx => (hV1' x u hx).elim (hs.view x u) (fun h => (hVc x u h).2)
 have hcovc : ∀ p b m, (∀ cn, upN ps cn ≠ some p) → newN p.top → bs p = some (b, m) → ∀ x u, x.block = b → w.cell? x = some u → Vc x = some u := fun p b m hp hn hbp x u hx hu => by
  simp only [Vc]; rw [if_pos ⟨p, b, m, hp, hn, hbp, hx⟩]; exact hu
 have hcov : ∀ p b m, (∀ cn, upN ps cn ≠ some p) → newN p.top → bs p = some (b, m) → ∀ x u, x.block = b → w.cell? x = some u → V1 x = some u := fun p b m hp hn hbp x u hx hu => by
  cases hVx : V x with
  | some y => rw [hV1 _ _ hVx]; rw [hs.view _ _ hVx] at hu; exact hu
  | none => simp only [V1, hVx]; exact hcovc p b m hp hn hbp x u hx hu
 have hVcV : Vc.le V1 := fun x u hx => by
  obtain ⟨⟨p, b, m, h1, hn, h2, h3⟩, h4⟩ := hVc x u hx
  exact hcov p b m h1 hn h2 x u h3 h4
 have hfr : ∀ x u, Vc x = some u → w0.heap.size ≤ x.block := fun x u hx => by
  obtain ⟨⟨p, b, m, h1, hn, h2, h3⟩, _⟩ := hVc x u hx
  rw [h3]; exact newN_fresh hs hn h2
 let bs1 : Loc := fun i => (upN ps i).bind bs
 have hbs1 : ∀ i p, upN ps i = some p → bs1 i = bs p := fun i p hi => by simp only [bs1, hi, Option.bind_some]
 have hb1 : ∀ i b m, bs1 i = some (b, m) → ∃ p, upN ps i = some p ∧ bs p = some (b, m) := fun i b m hi => by
  simp only [bs1] at hi
  cases hu : upN ps i with
  | none => rw [hu] at hi; simp at hi
  | some p => rw [hu] at hi; exact ⟨p, rfl, hi⟩
 have hup : ∀ i p, upN ps i = some p → ∃ q, out[i.top]? = some q ∧ q = p.top := fun i p hi => by
  cases i with
  | v i =>
   simp only [upN, hps, Option.map_eq_some_iff] at hi
   obtain ⟨q, h1, rfl⟩ := hi
   exact ⟨q, h1, rfl⟩
  | h i a b =>
   simp only [upN, hps] at hi
   cases ho : out[i]? with
   | none => rw [ho] at hi; simp at hi
   | some q => rw [ho] at hi; simp at hi; subst hi; exact ⟨q, ho, rfl⟩
 have huinj : ∀ i j p, upN ps i = some p → upN ps j = some p → i = j := fun i j p hi hj => by
  obtain ⟨q, h1, h2⟩ := hup i p hi
  obtain ⟨q', h3, h4⟩ := hup j p hj
  subst h2; subst h4
  have ht := nodup_inj hnd h1 h3
  cases i with
  | v i =>
   cases j with
   | v j => simp only [Nm.top] at ht; subst ht; rfl
   | h j a b =>
    simp only [upN, hps] at hi hj
    simp only [Nm.top] at h1 h3
    rw [h1] at hi; rw [h3] at hj
    simp at hi hj; rw [← hi] at hj; simp at hj
  | h i a b =>
   cases j with
   | v j =>
    simp only [upN, hps] at hi hj
    simp only [Nm.top] at h1 h3
    rw [h1] at hi; rw [h3] at hj
    simp at hi hj; rw [← hi] at hj; simp at hj
   | h j c d =>
    simp only [Nm.top] at ht; subst ht
    simp only [upN, hps] at hi hj
    simp only [Nm.top] at h1 h3
    rw [h1] at hi; rw [h3] at hj
    simp at hi hj; rw [← hi] at hj; simp at hj; rw [hj.1, hj.2]
 obtain ⟨res, h, hr1, hr2⟩ := argR_both hs hbs1 hV1 hcov hcovc hv hbn1 h
 obtain ⟨Lo, h, hLl, hLi⟩ := rowsD_both hs hbs1 hV1 hcov hcovc (i0 := 0) (fun i => by rw [Nat.zero_add]) hbn2 h
 have sat : ∀ W : View, W.le V1 → (∀ i q r, out[i]? = some q → Lo[i]? = some r → (∃ b m, bs (.v q) = some (b, m) ∧ RowSat W bs1 w i b m r) ∨ (bs (.v q) = none ∧ ∃ k, r = .own k [])) → SatL w0 M W bs1 (Lof Lo) w mv := fun W hW hrow => by
  refine ⟨hs.keep, fun x u hx => hV1w x u (hW x u hx), fun x u i b m hx hi => ?_, fun i j b m m' hi hj => ?_, fun i b m hi => ?_, fun i r hi hlt hmv => ?_, hs.ml, fun i hi => ?_, fun i r hi => ?_, fun t => by simp; exact .one (.dead _), rfl, rfl⟩
  ·obtain ⟨p, hp, hb⟩ := hb1 _ _ _ hi
   rcases hV1' x u (hW x u hx) with h2 | h2
   ·exact hs.apart _ _ _ _ _ h2 hb
   ·obtain ⟨⟨q, b', m', hq, _, hbq, hxb⟩, _⟩ := hVc x u h2
    rw [hxb]; rintro rfl
    have := hs.inj _ _ _ _ _ hbq hb; subst this
    exact hq _ hp
  ·obtain ⟨p, hp, hb⟩ := hb1 _ _ _ hi
   obtain ⟨q, hq, hb'⟩ := hb1 _ _ _ hj
   have := hs.inj _ _ _ _ _ hb hb'; subst this
   exact huinj _ _ _ hp hq
  ·obtain ⟨p, hp, hb⟩ := hb1 _ _ _ hi
   have := hs.fresh _ _ _ hb
   refine ⟨?_, this.2⟩
   obtain ⟨q, h1, h2⟩ := hup i p hp
   rcases Nat.lt_or_ge i.top n with h3 | h3
   ·have h4 := hid _ h3 (by omega)
    rw [h1] at h4; simp at h4
    have : i.root = p.root := by simp only [Nm.root]; rw [← h2, h4]
    rw [this]; exact (hs.fresh _ _ _ hb).1
   ·exact .inl (newN_fresh hs (h2 ▸ hnw _ _ h3 h1) hb)
  ·have hil : i < n := by omega
   have hout := hid i hil (by omega)
   have hps' : upN ps (.v i) = some (.v i) := by simp only [upN, hps, hout, Option.map_some]
   rw [hbs1 _ _ hps']
   obtain ⟨r0, hr0⟩ := Option.ne_none_iff_exists'.1 (hLi i _ r hout hi).1
   exact hs.par _ _ hr0 hlt fun hm => hmv (hmm _ hm hil)
  ·have : out[i]? = none := by
    have hi : Lo[i]? = none := hi
    rw [List.getElem?_eq_none_iff] at hi ⊢; omega
   have hn : ps[i]? = none := by rw [hps, this]; rfl
   exact ⟨by simp only [bs1, upN, hn, Option.bind_none], fun a b => by simp only [bs1, upN, hn, Option.bind_none]⟩
  ·have hil := (List.getElem?_eq_some_iff.1 (show Lo[i]? = some r from hi)).1
   have hp := List.getElem?_eq_getElem (l := out) (show i < out.length by omega)
   rw [hbs1 (.v i) (.v (out[i]'(by omega))) (by simp only [upN, hps, hp, Option.map_some])]
   exact hrow i _ r hp hi
 refine ⟨V1, bs1, res, Lo, h, by omega, hV1, fun x u hx => (hV1' x u hx).imp id (hfr x u), sat V1 (View.le.refl _) (fun i q r h1 h2 => (hLi i q r h1 h2).2.imp (fun ⟨b, m, g1, g2, _⟩ => ⟨b, m, g1, by rw [Nat.zero_add] at g2; exact g2⟩) id), hr1, fun hc => ?_⟩
 obtain ⟨hc1, hc2⟩ := hcl hc
 exact ⟨Vc, hVcV, hfr, sat Vc hVcV (fun i q r h1 h2 => (hLi i q r h1 h2).2.imp (fun ⟨b, m, g1, _, g3⟩ => ⟨b, m, g1, by have := g3 fun r0 hr0 => hc2 q (List.mem_of_getElem? h1) r0 hr0; rw [Nat.zero_add] at this; exact this⟩) id), hr2 hc1⟩

theorem CallM.of_body {f : FuncId} {fn : Func} {c : Code} {args : List SV} {Li : List Row} {mv : List Nat} {cl : Bool} {Post : SV → List Row → Prop} (hf : P.funcs[f]? = some fn) (hname : (fn.name == "runtime.NumGoroutine") = false) (hb : fn.body = some c)
  (hok : slotsOk fn.ntmps c = true) (hN : args.length ≤ fn.ntmps)
  (h : wpD P tb.tb c ⟨fun t => (args[t]?).getD (.one .dead), Lof Li, []⟩ (retD tb.tb fn.results.toList Li.length mv cl Post)) : CallM P f args Li mv cl Post := by
 refine ⟨⟨fn, hf, hname, by rw [hb]; rfl⟩, fun w M V bs vs hM hL hA => ?_⟩
 refine calls_of_wp hf hb ?_
 have hvl := hA.len
 have hs : Sat w M fn.ntmps V ⟨fun t => (args[t]?).getD (.one .dead), Lof Li, []⟩ { tmps := vs.toArray ++ Array.replicate (fn.ntmps - vs.toArray.size) undef, defers := [] } w := by
  refine ⟨V, bs, View.le.refl V, fun _ _ h => .inl h, hL.ofL (fun t => ?_) rfl (by simp; omega)⟩
  cases ha : args[t]? with
  | none => exact .one (.dead _)
  | some sv =>
   have ht := (List.getElem?_eq_some_iff.1 ha).1
   have hv := List.getElem?_eq_getElem (l := vs) (show t < vs.length by omega)
   have : (vs.toArray ++ Array.replicate (fn.ntmps - vs.toArray.size) undef).getD t undef = vs[t]'(by omega) := by
    have h5 : t < vs.length := by omega
    simp [Array.getD_eq_getD_getElem?, Array.getElem?_append, h5]
   rw [this]
   exact hA.get t sv _ ha hv
 refine wp_mono (wpD_ok tb c _ _ _ _ hok h hs) ?_
 rintro e a' w' ⟨S', h1, V', bs', g1, g2, g3⟩
 have fin : (resD tb.tb S' fn.results.toList fun vs => joinD vs fun sv => finD S' sv Li.length mv cl Post) → a'.defers = [] ∧ ∃ v, (results fn a'.tmps).run P w' = .ok v w' ∧ ∃ v_1 V' bs' res Lo, Ending.returned v = .returned v_1 ∧ Post res Lo ∧ Li.length ≤ Lo.length ∧ V.le V' ∧
   (∀ x u, V' x = some u → V x = some u ∨ w.heap.size ≤ x.block) ∧ SatL w M V' bs' (Lof Lo) w' mv ∧ VR V' bs' res v_1 ∧ (cl = true → Clean w M V' bs' Lo w' mv res v_1) := fun h1 => by
  obtain ⟨svs, vals, h2, h3, h4⟩ := resD_ok tb g3 _ h1
  obtain ⟨sv, h5, h6⟩ := joinD_ok h3 h2
  obtain ⟨V2, bs2, res, Lo, hp, hl, k1, k2, h7, h8, h9⟩ := finD_ok g3 h6 hM h5
  refine ⟨g3.defers, _, ?_, _, V2, bs2, res, Lo, rfl, hp, hl, g1.trans k1, fun x u hx => (k2 x u hx).elim (g2 x u) .inr, h7, h8, h9⟩
  unfold results
  rw [Array.mapM_eq_mapM_toList]
  simp only [Sem.run_bind, Sem.run_map]
  erw [h4]
  rfl
 cases e with
 | normal => exact fin h1
 | ret => exact fin h1
 | _ => exact h1.elim
end
end Go.Proofs.Ytpdjehnlejjfmaa.D
/- States written out as lists; a state that says less. -/
namespace Go.Proofs.Ytpdjehnlejjfmaa.D
open Go.RowKit

def look (ts : List (Nat × SV)) : Nat → SV := fun t => match ts with | [] => .one .dead | (i, v) :: r => if t = i then v else look r t
def lookL (ls : List (Nat × Row)) : Nat → Option Row := fun p => match ls with | [] => none | (i, r) :: rest => if p = i then some r else lookL rest p
def mk (ts : List (Nat × SV)) (ls : List (Nat × Row)) (mv : List Nat := []) : St := ⟨look ts, lookL ls, mv⟩

def froz (S : St) (ls : List (Nat × Row)) (c : CV) (xs : List (List DV)) : Prop :=
 ∃ p k off len es, c = .os p k off len ∧ lookL ls p.top = none ∧ newN p.top ∧ S.Lx p = some (k, es) ∧ off + len ≤ es.length ∧ Fz ((es.drop off).take len) xs
def cle (S : St) (ls : List (Nat × Row)) (c c' : CV) : Prop :=
 match c' with
 | .dead => True
 | .os p k off len => c = .os p k off len ∨ (c = .nil ∧ len = 0)
 | .dv (.sl es) => c = .dv (.sl es) ∨ (c = .nil ∧ es = []) ∨ froz S ls c es
 | c' => c = c'
def csle (S : St) (ls : List (Nat × Row)) : List CV → List CV → Prop
 | [], [] => True
 | c :: cs, c' :: cs' => cle S ls c c' ∧ csle S ls cs cs'
 | _, _ => False
def sle (S : St) (ls : List (Nat × Row)) (s s' : SV) : Prop :=
 match s', s with
 | .one .dead, _ => True
 | .one c', .one c => cle S ls c c'
 | .agg cs', .agg cs => csle S ls cs cs'
 | .arr ds', .arr ds => ds = ds'
 | _, _ => False
def refC (ls : List (Nat × Row)) : CV → Prop
 | .os p _ _ _ => (lookL ls p.top).isSome = true
 | .ptr p _ => (lookL ls p).isSome = true
 | .ep p _ _ _ => (lookL ls p.top).isSome = true
 | .sb .. => False
 | _ => True
def refCs (ls : List (Nat × Row)) : List CV → Prop | [] => True | c :: cs => refC ls c ∧ refCs ls cs
def refS (ls : List (Nat × Row)) : SV → Prop | .one c => refC ls c | .agg cs => refCs ls cs | .tup _ => False | .arr _ => True
def leT (S : St) (ls : List (Nat × Row)) : List (Nat × SV) → Prop
 | [] => True
 | (i, v) :: r => (sle S ls (S.T i) v ∧ refS ls v) ∧ leT S ls r
def leL (S : St) (ls : List (Nat × Row)) : List (Nat × Row) → Prop
 | [] => True
 | (p, r) :: rest =>
  (match r with
  | .box cs' => (match S.L p with | some (.box cs) => csle S ls cs cs' ∧ refCs ls cs' | _ => False)
  | .own k es => (match S.L p with | some r0 => r0 = .own k es | none => es = [] ∧ 1000 ≤ p)) ∧ leL S ls rest

section
variable {w0 : World} {M : Rows0} {N : Nat} {V V1 : View} {bs : Loc} {S : St} {a : Act} {w : World} {ls : List (Nat × Row)}
theorem cle_ok (hs : Sat1 w0 M N V bs S a w) (hV : V.le V1) (hcov : ∀ (p : Nm) b n, lookL ls p.top = none → newN p.top → bs p = some (b, n) → ∀ x u, x.block = b → w.cell? x = some u → V1 x = some u)
  {c c' : CV} {v : Value} (h : CR V bs c v) (hc : cle S ls c c') : CR V1 bs c' v := by
 have mono : ∀ {c : CV}, CR V bs c v → CR V1 bs c v := fun h => h.mono hV fun _ _ h => h
 unfold cle at hc
 split at hc
 ·exact .dead _
 ·rcases hc with rfl | ⟨rfl, rfl⟩
  ·exact mono h
  ·cases h; exact .oszero
 ·rcases hc with rfl | ⟨rfl, rfl⟩ | ⟨p, k, off, len, es, rfl, h1, h2, h3, h4, h5⟩
  ·exact mono h
  ·cases h; exact .dv (.nil _ _)
  ·exact .dv (own_rd hs h3 hV (fun q hq b n hb => by
    have : q.top = p.top := by rcases hq with rfl | ⟨p', i, j, rfl, rfl⟩ <;> rfl
    exact hcov q b n (this ▸ h1) (this ▸ h2) hb) h h4 h5)
 ·subst hc; exact mono h
theorem csle_ok (hs : Sat1 w0 M N V bs S a w) (hV : V.le V1) (hcov : ∀ (p : Nm) b n, lookL ls p.top = none → newN p.top → bs p = some (b, n) → ∀ x u, x.block = b → w.cell? x = some u → V1 x = some u)
  {cs : List CV} {vs : List Value} (h : CRs V bs cs vs) : ∀ {cs' : List CV}, csle S ls cs cs' → CRs V1 bs cs' vs := by
 induction h with
 |nil => intro cs' hc; cases cs' with
  | nil => exact .nil
  | cons => simp [csle] at hc
 | cons h _ ih =>
  intro cs' hc
  cases cs' with
  | nil => simp [csle] at hc
  | cons c' cs' => exact .cons (cle_ok hs hV hcov h hc.1) (ih hc.2)
end
theorem refC_ok {V : View} {bs bs' : Loc} {ls : List (Nat × Row)} (hb : ∀ p : Nm, (lookL ls p.top).isSome = true → bs' p = bs p) {c : CV} {v : Value} (h : CR V bs c v) (hr : refC ls c) : CR V bs' c v := by
 cases h with
 | dead => exact .dead _
 | nil => exact .nil
 | dv h => exact .dv h
 | os h hl hc => exact .os (by rw [hb _ hr]; exact h) hl hc
 | oszero => exact .oszero
 | ptr h => exact .ptr (by rw [hb (.v _) hr]; exact h)
 | ep h => exact .ep (by rw [hb _ hr]; exact h)
 | sb h => exact hr.elim
 | dp h1 h2 => exact .dp h1 h2
theorem refCs_ok {V : View} {bs bs' : Loc} {ls : List (Nat × Row)} (hb : ∀ p : Nm, (lookL ls p.top).isSome = true → bs' p = bs p) {cs : List CV} {vs : List Value} (h : CRs V bs cs vs) : refCs ls cs → CRs V bs' cs vs := by
 induction h with
 | nil => intro _; exact .nil
 | cons h _ ih => intro hr; exact .cons (refC_ok hb h hr.1) (ih hr.2)

theorem leT_get {S : St} {ls : List (Nat × Row)} : ∀ {ts : List (Nat × SV)}, leT S ls ts → ∀ t, look ts t = .one .dead ∨ (sle S ls (S.T t) (look ts t) ∧ refS ls (look ts t))
 | [], _, t => .inl rfl
 |(i, v) :: r, h, t => by
  unfold look
  split
  ·rename_i e; subst e; exact .inr h.1
  ·exact leT_get h.2 t
theorem leL_get {S : St} {ls : List (Nat × Row)} : ∀ {rest : List (Nat × Row)}, leL S ls rest → ∀ p r, lookL rest p = some r →
  (match r with
  | .box cs' => (match S.L p with | some (.box cs) => csle S ls cs cs' ∧ refCs ls cs' | _ => False)
  | .own k es => (match S.L p with | some r0 => r0 = .own k es | none => es = [] ∧ 1000 ≤ p))
 | [], _, p, r, h => by simp [lookL] at h
 |(i, r0) :: rest, h, p, r, hp => by
  unfold lookL at hp
  split at hp
  ·rename_i e; subst e; injection hp with hp; subst hp; exact h.1
  ·exact leL_get h.2 p r hp

open Classical in
/-- A state written out that says less than S. -/
theorem le_mk {S : St} {ts : List (Nat × SV)} {ls : List (Nat × Row)} {mv : List Nat} (ht : leT S ls ts) (hl : leL S ls ls) (hm : ∀ p ∈ S.mv, p ∈ mv ∨ 1000 ≤ p) : Le S (mk ts ls mv) := by
 rintro w0 M N V0 a w ⟨V, bs, h0, h1, hs⟩
 let V1 : View := fun x => match V x with | some u => some u | none => if ∃ (p : Nm) (b m : Nat), lookL ls p.top = none ∧ newN p.top ∧ bs p = some (b, m) ∧ x.block = b then w.cell? x else none
 have hV : V.le V1 := fun x u hx => by simp only [V1, hx]
 have hV' : ∀ x u, V1 x = some u → V x = some u ∨ ((∃ (p : Nm) (b m : Nat), lookL ls p.top = none ∧ newN p.top ∧ bs p = some (b, m) ∧ x.block = b) ∧ w.cell? x = some u) := fun x u hx => by
  simp only [V1] at hx
  split at hx
  ·rename_i y hy; simp at hx; subst hx; exact .inl hy
  ·split at hx
   ·rename_i hb; exact .inr ⟨hb, hx⟩
   ·simp at hx
 have hcov : ∀ (p : Nm) b n, lookL ls p.top = none → newN p.top → bs p = some (b, n) → ∀ x u, x.block = b → w.cell? x = some u → V1 x = some u := fun p b n hp hp2 hbp x u hx hu => by
  cases hVx : V x with
  | some y => rw [hV _ _ hVx]; rw [hs.view _ _ hVx] at hu; exact hu
  | none => simp only [V1, hVx]; rw [if_pos ⟨p, b, n, hp, hp2, hbp, hx⟩]; exact hu
 let bs' : Loc := fun p => if (lookL ls p.top).isSome = true then bs p else none
 have hb : ∀ p : Nm, (lookL ls p.top).isSome = true → bs' p = bs p := fun p hp => by simp only [bs', hp, if_true]
 have hb2 : ∀ (p : Nm) x, bs' p = some x → bs p = some x ∧ (lookL ls p.top).isSome = true := fun p x hx => by
  simp only [bs'] at hx
  split at hx
  ·rename_i hp; exact ⟨hx, hp⟩
  ·simp at hx
 refine ⟨V1, bs', h0.trans hV, fun x u hx => ?_, hs.keep, fun x u hx => (hV' x u hx).elim (hs.view x u) (·.2), fun x v p b n hx hp => ?_, fun p q b n n' hp hq => hs.inj _ _ _ _ _ (hb2 _ _ hp).1 (hb2 _ _ hq).1, fun p b n hp => hs.fresh _ _ _ (hb2 _ _ hp).1,
  fun p r hp hlt hmv => ?_, hs.ml, fun p hp => ?_, fun p r hp => ?_, fun t => ?_, hs.defers, hs.nt⟩
 ·rcases hV' x u hx with h2 | ⟨⟨p, b, m, _, h3, h4, h5⟩, _⟩
  ·exact h1 x u h2
  ·rw [h5]
   exact .inr (newN_fresh hs h3 h4)
 ·obtain ⟨g1, g2⟩ := hb2 _ _ hp
  rcases hV' x v hx with h2 | ⟨⟨q, b', m, h3, _, h4, h5⟩, _⟩
  ·exact hs.apart _ _ _ _ _ h2 g1
  ·rw [h5]; rintro rfl
   have := hs.inj _ _ _ _ _ h4 g1; subst this
   rw [h3] at g2; simp at g2
 ·have hp : lookL ls p = some r := hp
  rw [hb (.v p) (by simp only [Nm.top]; rw [hp]; rfl)]
  have := leL_get hl p r hp
  cases hSL : S.L p with
  | some r0 => exact hs.par p r0 hSL hlt fun h => (hm p h).elim hmv fun h => by have := hs.ml.1; omega
  | none =>
   have hml := hs.ml.1
   rw [hSL] at this
   cases r with
   | box => exact this.elim
   | own k es => omega
 ·have hp : lookL ls p = none := hp
  exact ⟨by simp [bs', Nm.top, hp], fun i j => by simp [bs', Nm.top, hp]⟩
 ·have hp : lookL ls p = some r := hp
  have hpb := hb (.v p) (by simp only [Nm.top]; rw [hp]; rfl)
  have hph : ∀ i j, bs' (.h p i j) = bs (.h p i j) := fun i j => hb (.h p i j) (by simp only [Nm.top]; rw [hp]; rfl)
  rw [hpb]
  have := leL_get hl p r hp
  cases r with
  | box cs' =>
   simp only at this
   split at this
   ·rename_i cs hSL
    rcases hs.rows p _ hSL with ⟨b, n, h2, g1, g2, g0, vs, g3, g4⟩ | ⟨_, k, hk⟩
    ·have g5 := csle_ok hs hV hcov g3 this.1
     exact .inl ⟨b, n, h2, by rw [g1, g3.length, g5.length], g2, fun i j => (hph i j).trans (g0 i j), vs, refCs_ok hb g5 this.2, g4⟩
    ·simp at hk
   ·exact this.elim
  | own k es =>
   simp only at this
   split at this
   ·rename_i r0 hSL
    subst this
    refine (hs.rows p _ hSL).imp (fun ⟨b, n, h2, h3⟩ => ⟨b, n, h2, ?_⟩) id
    obtain ⟨g1, g2, g3, g4⟩ := h3
    exact ⟨g1, g2, g3, fun i j hi hj => by obtain ⟨v, g5, g6⟩ := g4 i j hi hj; exact ⟨v, g5, g6.mono hV (hph i j) (fun _ _ _ => rfl)⟩⟩
   ·rename_i hSL
    obtain ⟨rfl, _⟩ := this
    exact .inr ⟨(hs.dom p hSL).1, k, rfl⟩
 ·show VR V1 bs' (look ts t) _
  rcases leT_get ht t with h | ⟨h2, h3⟩
  ·rw [h]; exact .one (.dead _)
  ·have hv := hs.tmps t
   generalize look ts t = s' at h2 h3
   generalize S.T t = s at h2 hv
   generalize a.tmps.getD t undef = u at hv ⊢
   unfold sle at h2
   split at h2
   ·exact .one (.dead _)
   ·exact .one (refC_ok hb (cle_ok hs hV hcov (vr_one hv) h2) h3)
   ·cases hv with
    | agg hc => exact .agg (refCs_ok hb (csle_ok hs hV hcov hc h2) h3)
   ·subst h2
    cases hv with
    | arr hc => exact .arr (hc.plain hV)
   ·exact h2.elim
end Go.Proofs.Ytpdjehnlejjfmaa.D
/- The steps of a run, in the form that is gone through by reduction: values. -/
namespace Go.Proofs.Ytpdjehnlejjfmaa.D
open Go.RowKit

structure Need (p X : Prop) : Prop where
 p : p
 x : X
inductive Pick {α : Type} (p : α → Prop) (X : α → Prop) : Prop
 | mk (x : α) (hp : p x) (hx : X x)
structure Done (p : Prop) : Prop where
 ok : p
def chk (b : Bool) (X : Prop) : Prop := match b with | true => X | false => False
def br (b : Bool) (X Y : Prop) : Prop := match b with | true => X | false => Y
theorem chk_iff {b : Bool} {X : Prop} : chk b X ↔ b = true ∧ X := by cases b <;> simp [chk]
theorem br_iff {b : Bool} {X Y : Prop} : br b X Y ↔ (b = true → X) ∧ (b = false → Y) := by cases b <;> simp [br]
theorem Need.iff {p X : Prop} : Need p X ↔ p ∧ X := ⟨fun h => ⟨h.1, h.2⟩, fun h => ⟨h.1, h.2⟩⟩
theorem Pick.iff {α : Type} {p : α → Prop} {X : α → Prop} : Pick p X ↔ ∃ x, p x ∧ X x := ⟨fun ⟨x, a, b⟩ => ⟨x, a, b⟩, fun ⟨x, a, b⟩ => ⟨x, a, b⟩⟩
theorem br_dec {p : Prop} [Decidable p] {X Y : Prop} (h1 : p → X) (h2 : ¬p → Y) : br (decide p) X Y := br_iff.2 ⟨fun h => h1 (of_decide_eq_true h), fun h => h2 (of_decide_eq_false h)⟩
theorem br_not {b : Bool} {X Y : Prop} (h : br b Y X) : br (!b) X Y := by cases b <;> exact h
theorem br_beq {a b : Int} {X Y : Prop} (h1 : a = b → X) (h2 : a ≠ b → Y) : br (a == b) X Y := br_iff.2 ⟨fun h => h1 (by simpa using h), fun h => h2 (by simpa using h)⟩
theorem br_bne {a b : Int} {X Y : Prop} (h1 : a ≠ b → X) (h2 : a = b → Y) : br (a != b) X Y := br_iff.2 ⟨fun h => h1 (by simpa using h), fun h => h2 (by simpa using h)⟩
theorem wid {x : Int} (h1 : -9223372036854775808 ≤ x) (h2 : x ≤ 9223372036854775807) : IntKind.i64.wrap x = x := wrap64_id h1 h2
theorem pick_nat {α : Type} (l : List α) (f : α → List DV) (i : Nat) (h : i < l.length) : 0 ≤ (i : Int) ∧ (l.map f)[(i : Int).toNat]? = some (f l[i]) := ⟨by omega, by simp [h]⟩
theorem pick_int {α : Type} (l : List α) (f : α → List DV) (n : Int) (h0 : 0 ≤ n) (h : n < l.length) : 0 ≤ n ∧ (l.map f)[n.toNat]? = some (f (l[n.toNat]'(by omega))) := ⟨h0, by rw [List.getElem?_map, List.getElem?_eq_getElem (by omega)]; rfl⟩
theorem all_map {α : Type} (l : List α) (f : α → List DV) (k : Nat) (h : ∀ a, (f a).length = k) : ∀ e ∈ l.map f, e.length = k := fun e he => by obtain ⟨a, _, rfl⟩ := List.mem_map.1 he; exact h a
theorem br_true {X Y : Prop} {b : Bool} (e : b = true) (h : X) : br b X Y := by subst e; exact h
theorem br_false {X Y : Prop} {b : Bool} (e : b = false) (h : Y) : br b X Y := by subst e; exact h

def wideK (k : Nat) : Bool := [9, 16, 120, 21, 25, 192].any (Nat.beq k)
def fN (n : Nat) (K : Nat → Prop) : Prop := match n with | 0 => K 0 | n + 1 => K (n + 1)
theorem fN_iff {n : Nat} {K : Nat → Prop} : fN n K ↔ K n := by cases n <;> exact Iff.rfl
def fNs : List Nat → (List Nat → Prop) → Prop
 | [], K => K []
 | n :: ns, K => fN n fun n => fNs ns fun ns => K (n :: ns)
theorem fNs_iff : ∀ {ns : List Nat} {K : List Nat → Prop}, fNs ns K ↔ K ns
 | [], _ => Iff.rfl
 | n :: ns, K => by simp only [fNs, fN_iff, fNs_iff]
def fNm (p : Nm) (K : Nm → Prop) : Prop := match p with | .v p => fN p fun p => K (.v p) | .h p i j => fN p fun p => K (.h p i j)
theorem fNm_iff {p : Nm} {K : Nm → Prop} : fNm p K ↔ K p := by cases p <;> simp only [fNm, fN_iff]
def fC (c : CV) (K : CV → Prop) : Prop :=
 match c with
 | .dead => K .dead | .nil => K .nil | .dv d => K (.dv d) | .os p k off len => fNm p fun p => fN k fun k => K (.os p k off len) | .ptr p o => fN p fun p => fN o fun o => K (.ptr p o) | .ep p k i f => fNm p fun p => fN k fun k => K (.ep p k i f) | .dp cs f => K (.dp cs f) | .sb p o k n => fN p fun p => fN o fun o => fN k fun k => fN n fun n => K (.sb p o k n)
theorem fC_iff {c : CV} {K : CV → Prop} : fC c K ↔ K c := by cases c <;> simp only [fC, fN_iff, fNm_iff]
def fCs : List CV → (List CV → Prop) → Prop
 | [], K => K []
 | c :: cs, K => fC c fun c => fCs cs fun cs => K (c :: cs)
theorem fCs_iff : ∀ {cs : List CV} {K : List CV → Prop}, fCs cs K ↔ K cs
 | [], _ => Iff.rfl
 | c :: cs, K => by simp only [fCs, fC_iff, fCs_iff]
def fPs : List (Bool × List CV) → (List (Bool × List CV) → Prop) → Prop
 | [], K => K []
 | (b, cs) :: ps, K => fCs cs fun cs => fPs ps fun ps => K ((b, cs) :: ps)
theorem fPs_iff : ∀ {ps : List (Bool × List CV)} {K : List (Bool × List CV) → Prop}, fPs ps K ↔ K ps
 | [], _ => Iff.rfl
 | (b, cs) :: ps, K => by simp only [fPs, fCs_iff, fPs_iff]
def fS (v : SV) (K : SV → Prop) : Prop :=
 match v with
 | .one c => fC c fun c => K (.one c)
 | .agg cs => fCs cs fun cs => K (.agg cs)
 | .tup ps => fPs ps fun ps => K (.tup ps)
 | .arr ds => K (.arr ds)
theorem fS_iff {v : SV} {K : SV → Prop} : fS v K ↔ K v := by
 cases v with
 | one c => exact fC_iff (K := fun c => K (.one c))
 | agg cs => exact fCs_iff (K := fun cs => K (.agg cs))
 | tup ps => exact fPs_iff (K := fun ps => K (.tup ps))
 | arr ds => exact Iff.rfl
def fL (l : List CV) (K : List CV → Prop) : Prop := match l with | [] => K [] | c :: r => fL r fun r' => K (c :: r')
theorem fL_iff : ∀ {l : List CV} {K : List CV → Prop}, fL l K ↔ K l
 | [], K => Iff.rfl
 | c :: r, K => by rw [fL]; exact fL_iff (l := r)
def fillE (place : Nat → Option (Nat × Nat)) (cells : List CV) : List (Nat × SV) → (List CV → Prop) → Prop
 | [], K => K cells
 | (i, v) :: rest, K =>
  match place i, v.cells? with
  | some (off, size), some cs => chk (Nat.beq cs.length size && Nat.ble (off + size) cells.length) (fL (cells.take off ++ cs ++ cells.drop (off + size)) fun cells' => fillE place cells' rest K)
  | _, _ => False
theorem fillE_ok {place : Nat → Option (Nat × Nat)} : ∀ {ps : List (Nat × SV)} {cells : List CV} {K : List CV → Prop}, fillE place cells ps K → ∃ cs, fillC place cells ps = some cs ∧ K cs
 | [], cells, K, h => ⟨cells, rfl, h⟩
 |(i, v) :: rest, cells, K, h => by
  unfold fillE at h
  unfold fillC
  split at h
  ·rename_i e1 e2
   obtain ⟨h0, h⟩ := chk_iff.1 h
   simp only [Bool.and_eq_true] at h0
   simp only [e1, e2]
   rw [if_pos ⟨Nat.eq_of_beq_eq_true h0.1, Nat.le_of_ble_eq_true h0.2⟩]
   exact fillE_ok (fL_iff.1 h)
  ·exact h.elim
def putE (S : St) (d : Option Tmp) (v : SV) (K : St → Prop) : Prop := fS v fun v => K (S.put d v)
theorem putE_iff {S : St} {d : Option Tmp} {v : SV} {K : St → Prop} : putE S d v K ↔ K (S.put d v) := fS_iff

section
variable {tb : TypeId → Option TyI} {S : St}

def binE (tb : TypeId → Option TyI) (op : BinOp) (t : TypeId) (u v : Value) (K : Value → Prop) : Prop :=
 match op, u, v with
 | .shl, .int k a, .int _ b => Need (0 ≤ b) (Pick (fun y => k.wrap (a * 2 ^ (min b.toNat k.bits)) = y) fun y => K (.int k y))
 | .shr, .int k a, .int _ b => Need (0 ≤ b) (Pick (fun y => a.fdiv (2 ^ (min b.toNat k.bits)) = y) fun y => K (.int k y))
 | .add, .int k a, .int k' b => chk (decide (k = k')) (Pick (fun y => k.wrap (a + b) = y) fun y => K (.int k y))
 | .sub, .int k a, .int k' b => chk (decide (k = k')) (Pick (fun y => k.wrap (a - b) = y) fun y => K (.int k y))
 | .mul, .int k a, .int k' b => chk (decide (k = k')) (Pick (fun y => k.wrap (a * b) = y) fun y => K (.int k y))
 | .quo, .int k a, .int k' b => chk (decide (k = k')) (Need (b ≠ 0) (Pick (fun y => k.wrap (a.tdiv b) = y) fun y => K (.int k y)))
 | .rem, .int k a, .int k' b => chk (decide (k = k')) (Need (b ≠ 0) (Pick (fun y => a.tmod b = y) fun y => K (.int k y)))
 | .and, .int k a, .int k' b => chk (decide (k = k')) (Pick (fun y => bits .and k a b = y) fun y => K (.int k y))
 | .or, .int k a, .int k' b => chk (decide (k = k')) (Pick (fun y => bits .or k a b = y) fun y => K (.int k y))
 | .xor, .int k a, .int k' b => chk (decide (k = k')) (Pick (fun y => bits .xor k a b = y) fun y => K (.int k y))
 | .andNot, .int k a, .int k' b => chk (decide (k = k')) (Pick (fun y => bits .andNot k a b = y) fun y => K (.int k y))
 | .eql, .int k a, .int k' b => chk (decide (k = k')) (K (.bool (a == b)))
 | .neq, .int k a, .int k' b => chk (decide (k = k')) (K (.bool (a != b)))
 | .lss, .int k a, .int k' b => chk (decide (k = k')) (K (.bool (decide (a < b))))
 | .leq, .int k a, .int k' b => chk (decide (k = k')) (K (.bool (decide (a ≤ b))))
 | .gtr, .int k a, .int k' b => chk (decide (k = k')) (K (.bool (decide (a > b))))
 | .geq, .int k a, .int k' b => chk (decide (k = k')) (K (.bool (decide (a ≥ b))))
 | .add, .string a, .string b => Need (((a.size + b.size : Nat) : Int) ≤ 9223372036854775807) (Pick (fun s => a ++ b = s) fun s => K (.string s))
 | .eql, .string a, .string b => Pick (fun r : Bool => (a.toList == b.toList) = r) fun r => K (.bool r)
 | .neq, .string a, .string b => Pick (fun r : Bool => (a.toList == b.toList) = r) fun r => K (.bool !r)
 | .lss, .string a, .string b => Pick (fun r : Bool => Op.bytesLess a.toList b.toList = r) fun r => K (.bool r)
 | .leq, .string a, .string b => Pick (fun r : Bool => (Op.bytesLess a.toList b.toList || a.toList == b.toList) = r) fun r => K (.bool r)
 | .gtr, .string a, .string b => Pick (fun r : Bool => (Op.bytesLess a.toList b.toList || a.toList == b.toList) = r) fun r => K (.bool !r)
 | .geq, .string a, .string b => Pick (fun r : Bool => Op.bytesLess a.toList b.toList = r) fun r => K (.bool !r)
 | .eql, .bool a, .bool b => (match tb t with | some { kind := .bool, .. } => K (.bool (a == b)) | _ => False)
 | .neq, .bool a, .bool b => (match tb t with | some { kind := .bool, .. } => K (.bool !(a == b)) | _ => False)
 | _, _, _ => False
theorem binE_ok {op : BinOp} {t : TypeId} {u v : Value} {K K' : Value → Prop} (hk : ∀ r, K r → K' r) (h : binE tb op t u v K) : binD tb op t u v K' := by
  unfold binE at h
  split at h <;> first
    | exact ⟨h.1, hk _ h.2⟩
    | (obtain ⟨h1, y, h2, h3⟩ := h; subst h2; exact ⟨h1, hk _ h3⟩)
    | (obtain ⟨y, h2, h3⟩ := h; subst h2; exact hk _ h3)
    | (obtain ⟨h1, h2⟩ := chk_iff.1 h; exact ⟨of_decide_eq_true h1, hk _ h2⟩)
    | (obtain ⟨h1, y, h2, h3⟩ := chk_iff.1 h; subst h2; exact ⟨of_decide_eq_true h1, hk _ h3⟩)
    | (obtain ⟨h1, h0, y, h2, h3⟩ := chk_iff.1 h; subst h2; exact ⟨of_decide_eq_true h1, h0, hk _ h3⟩)
    | (obtain ⟨h1, h2⟩ := chk_iff.1 h; exact ⟨of_decide_eq_true h1, h2.1, hk _ h2.2⟩)
    | exact hk _ h
    | (split at h
       · rename_i e; simp only [binD, e]; exact hk _ h
       · exact h.elim)
    | exact h.elim

def selE (i : TyI) (cs : List CV) (off : Nat) (K : SV → Prop) : Prop :=
 match i.kind.agg with
 | true => chk (Nat.ble (off + i.size) cs.length) (K (.agg ((cs.drop off).take i.size)))
 | false => match cs[off]? with | some c => K (.one c) | none => False
theorem selE_ok {i : TyI} {cs : List CV} {o : Nat} {K K' : SV → Prop} (hk : ∀ r, K r → K' r) (h : selE i cs o K) : selD i cs o K' := by
 unfold selE at h; unfold selD
 split at h
 ·rename_i e; rw [e]
  obtain ⟨h1, h2⟩ := chk_iff.1 h
  exact ⟨Nat.le_of_ble_eq_true h1, .inl (hk _ h2)⟩
 ·rename_i e; rw [e]
  split at h
  ·rename_i e; simp only [e]; exact hk _ h
  ·exact h.elim
def selP (i : TyI) (cs : List CV) (off : Nat) (K : SV → Prop) : Prop :=
 match i.kind.agg with
 | true => Pick (fun ds => off + i.size ≤ cs.length ∧ (cs.drop off).take i.size = ds) fun ds => K (.agg ds)
 | false => Pick (fun c => cs[off]? = some c) fun c => fC c fun c => K (.one c)
theorem selP_ok {i : TyI} {cs : List CV} {o : Nat} {K K' : SV → Prop} (hk : ∀ r, K r → K' r) (h : selP i cs o K) : selD i cs o K' := by
 unfold selP at h; unfold selD
 split at h
 ·rename_i e; rw [e]
  obtain ⟨ds, ⟨h1, rfl⟩, h2⟩ := h
  exact ⟨h1, .inl (hk _ h2)⟩
 ·rename_i e; rw [e]
  obtain ⟨c, h1, h2⟩ := h
  simp only [h1]; exact hk _ (fC_iff.1 h2)
def selA (i : TyI) (ds : List DV) (off : Nat) (K : SV → Prop) : Prop :=
 match i.kind.agg with
 | true => Pick (fun es => off + i.size ≤ ds.length ∧ (ds.drop off).take i.size = es) fun es => K (.agg (es.map .dv))
 | false => Pick (fun d => ds[off]? = some d) fun d => K (.one (.dv d))
theorem selA_ok {i : TyI} {ds : List DV} {o : Nat} {K K' : SV → Prop} (hk : ∀ r, K r → K' r) (h : selA i ds o K) : selD i (ds.map .dv) o K' := by
 unfold selA at h; unfold selD
 split at h
 ·rename_i e; rw [e]
  obtain ⟨es, ⟨h1, rfl⟩, h2⟩ := h
  refine ⟨by simpa using h1, .inl ?_⟩
  rw [← List.map_drop, ← List.map_take]; exact hk _ h2
 ·rename_i e; rw [e]
  obtain ⟨d, h1, h2⟩ := h
  simp only [List.getElem?_map, h1, Option.map_some]; exact hk _ h2
def ownE (S : St) (nm : Nm) (K : Nat → List (List DV) → Prop) : Prop :=
 match nm with
 | .v p => (match S.L p with | some (.own k es) => K k es | _ => False)
 |.h p i j => (match S.L p with
  | some (.own k0 es0) => Pick (fun e => es0[i]? = some e) fun e =>
   (match wideK k0 with
   | true => Pick (fun d => e[j]? = some d) fun d => (match d with | .ow k _ _ es => K k es | _ => False)
   | false => (match e[j]? with | some (.ow k _ _ es) => K k es | _ => False))
  | _ => False)
theorem ownE_ok {nm : Nm} {K : Nat → List (List DV) → Prop} (h : ownE S nm K) : ∃ k es, S.Lx nm = some (k, es) ∧ K k es := by
 unfold ownE at h
 split at h
 ·split at h
  ·rename_i e; exact ⟨_, _, by simp only [St.Lx, e], h⟩
  ·exact h.elim
 ·split at h
  ·rename_i e
   obtain ⟨x, h1, h⟩ := h
   split at h
   ·obtain ⟨d, h2, h⟩ := h
    split at h
    ·exact ⟨_, _, by simp only [St.Lx, e, h1, h2], h⟩
    ·exact h.elim
   ·split at h
    ·rename_i e2; exact ⟨_, _, by simp only [St.Lx, e, h1, e2], h⟩
    ·exact h.elim
  ·exact h.elim
def bigA (i : TyI) : Bool := match i.kind with | .array _ _ => Nat.ble 34 i.size | _ => false
def plainD : DV → Bool | .ow _ _ _ _ => false | .no => false | _ => true
theorem cvs_plain (p : Nm) (m : Nat) : ∀ (j : Nat) (ds : List DV), (∀ d ∈ ds, plainD d = true) → cvs p m j ds = ds.map .dv
 | _, [], _ => rfl
 |j, d :: ds, h => by
  simp only [cvs, List.map_cons, cvs_plain p m (j + 1) ds fun d hd => h d (List.mem_cons_of_mem _ hd)]
  have := h d (List.mem_cons_self ..)
  cases d <;> simp [plainD] at this <;> rfl
def ptrE (S : St) (i : TyI) (c : CV) (K : SV → Prop) : Prop :=
 match c with
 | .ptr p o => (match S.L p with | some (.box cs) => selE i cs o K | _ => False)
 | .ep p k m f => ownE S p fun k' es => chk (Nat.beq k k') (Pick (fun cells => es[m]? = some cells) fun cells =>
   (match wideK k' with
   |true => (match i.kind.agg with
    |true => Pick (fun ds => f + i.size ≤ cells.length ∧ (cells.drop f).take i.size = ds) fun ds => (match bigA i with
     | true => Need (∀ d ∈ ds, plainD d = true) (K (.arr ds))
     | false => K (.agg (cvs p m f ds)))
    | false => Pick (fun d => cells[f]? = some d) fun d => K (.one (toCV p m f d)))
   | false => selE i (cvs p m 0 cells) f K))
 | .dp c f => selE i (c.map .dv) f K
 | _ => False
theorem cvs_at (p : Nm) (m : Nat) : ∀ (j0 : Nat) (ds : List DV) (f : Nat) (d : DV), ds[f]? = some d → (cvs p m j0 ds)[f]? = some (toCV p m (j0 + f) d)
 | _, [], f, d, h => by simp at h
 | j0, x :: ds, 0, d, h => by simp at h; subst h; simp [cvs]
 | j0, x :: ds, f + 1, d, h => by simp only [cvs, List.getElem?_cons_succ]; rw [cvs_at p m (j0 + 1) ds f d (by simpa using h)]; rw [show j0 + 1 + f = j0 + (f + 1) by omega]
theorem cvs_part (p : Nm) (m : Nat) : ∀ (n f j0 : Nat) (ds : List DV), ((cvs p m j0 ds).drop f).take n = cvs p m (j0 + f) ((ds.drop f).take n)
 | n, f, j0, [] => by simp [cvs]
 |n, 0, j0, x :: ds => by
  cases n with
  | zero => simp [cvs]
  | succ n => simp only [cvs, List.drop_zero, List.take_succ_cons, Nat.add_zero]; congr 1; have := cvs_part p m n 0 (j0 + 1) ds; simpa using this
 | n, f + 1, j0, x :: ds => by simp only [cvs, List.drop_succ_cons]; rw [cvs_part p m n f (j0 + 1) ds, show j0 + 1 + f = j0 + (f + 1) by omega]
theorem ptrE_ok {i : TyI} {c : CV} {K K' : SV → Prop} (hk : ∀ v, K v → K' v) (h : ptrE S i c K) : ∃ cs o, ptrCells S c = some (cs, o) ∧ selD i cs o K' := by
 unfold ptrE at h
 split at h
 ·split at h
  ·rename_i e; exact ⟨_, _, by simp only [ptrCells, e], selE_ok hk h⟩
  ·exact h.elim
 ·rename_i p k m f
  obtain ⟨k', es, h1, h⟩ := ownE_ok h
  obtain ⟨h2, cells, h3, h⟩ := chk_iff.1 h
  have := Nat.eq_of_beq_eq_true h2; subst this
  refine ⟨cvs p m 0 cells, f, by simp [ptrCells, h1, h3], ?_⟩
  split at h
  ·split at h
   ·rename_i e
    obtain ⟨ds, ⟨g1, g2⟩, h⟩ := h
    subst g2
    unfold selD; rw [e]
    refine ⟨by rw [cvs_length]; exact g1, ?_⟩
    rw [cvs_part, Nat.zero_add]
    split at h
    ·exact .inr ⟨_, cvs_plain _ _ _ _ h.1, hk _ h.2⟩
    ·exact .inl (hk _ h)
   ·rename_i e
    obtain ⟨d, g1, h⟩ := h
    unfold selD; rw [e]
    have := cvs_at p m 0 cells f d g1
    simp only [this, Nat.zero_add]; exact hk _ h
  ·exact selE_ok hk h
 ·exact ⟨_, _, rfl, selE_ok hk h⟩
 ·exact h.elim

def addN (off : Nat) (n : Nat) : Nat := match off with | 0 => n | o => o + n
theorem addN_eq (off n : Nat) : addN off n = off + n := by unfold addN; split <;> omega
def boundE (S : St) (x : Option Operand) (dflt y : Nat) (K : Nat → Prop) : Prop :=
 match x with
 | none => K dflt
 | some x => mapInt S x fun _ n => Pick (fun m : Nat => n = (m : Int) ∧ m ≤ y) K
theorem boundE_ok {x : Option Operand} {d y : Nat} {K K' : Nat → Prop} (hk : ∀ r, K r → K' r) (h : boundE S x d y K) : boundD S x d y K' := by
 unfold boundE at h; unfold boundD
 split at h
 ·exact hk _ h
 ·exact mapInt_mono (fun k n h => by obtain ⟨m, ⟨rfl, h1⟩, h2⟩ := h; exact ⟨by omega, hk _ (by simpa using h2)⟩) h
def SlOf (es : List (List DV)) (off len : Nat) (ds : List (List DV)) : Prop := off + len ≤ es.length ∧ (es.drop off).take len = ds
theorem SlOf.full {es : List (List DV)} {len : Nat} (h : len = es.length) : SlOf es 0 len es := ⟨by omega, by subst h; simp⟩
def SlF (es : List (List DV)) (off len : Nat) (ds : List (List DV)) : Prop := off + len ≤ es.length ∧ Fz ((es.drop off).take len) ds
theorem SlF.full {es xs : List (List DV)} {len : Nat} (h : len = es.length) (hf : Fz es xs) : SlF es 0 len xs := ⟨by omega, by subst h; simpa using hf⟩
theorem SlF.of {es xs : List (List DV)} {off len : Nat} (h : SlOf es off len xs) (hf : Fz xs xs) : SlF es off len xs := ⟨h.1, by rw [h.2]; exact hf⟩

def eqFsE (tb : TypeId → Option TyI) (rec : TypeId → SV → SV → (Bool → Prop) → Prop) : List (Nat × TypeId) → List CV → List CV → (Bool → Prop) → Prop
 | [], _, _, K => K true
 | [(off, ft)], cs, ds, K =>
  (match tb ft with
  | some i => selE i cs off fun a => selE i ds off fun b => rec ft a b K
  | none => False)
 | (off, ft) :: rest, cs, ds, K =>
  match tb ft with
  | some i => selE i cs off fun a => selE i ds off fun b => rec ft a b fun r => eqFsE tb rec rest cs ds fun r' => K (r && r')
  | none => False
def eqE (tb : TypeId → Option TyI) : Nat → TypeId → SV → SV → (Bool → Prop) → Prop
 | 0, _, _, _, _ => False
 | n + 1, t, u, v, K =>
  match tb t, u, v with
  | some { kind := .int _, .. }, .one (.dv (.sc (.int k a))), .one (.dv (.sc (.int k' b))) => chk (decide (k = k')) (K (a == b))
  | some { kind := .string, .. }, .one (.dv (.sc (.string a))), .one (.dv (.sc (.string b))) => Pick (fun r : Bool => (a.toList == b.toList) = r) K
  | some { kind := .bool, .. }, .one (.dv (.sc (.bool a))), .one (.dv (.sc (.bool b))) => K (a == b)
  | some { kind := .struct fs, cmp := true, .. }, .agg cs, .agg ds => eqFsE tb (eqE tb n) fs cs ds K
  | _, _, _ => False
theorem eqFsE_ok {rec rec' : TypeId → SV → SV → (Bool → Prop) → Prop} (hrec : ∀ t u v (K K' : Bool → Prop), (∀ b, K b → K' b) → rec t u v K → rec' t u v K') :
  ∀ (fs : List (Nat × TypeId)) (cs ds : List CV) {K K' : Bool → Prop}, (∀ b, K b → K' b) → eqFsE tb rec fs cs ds K → eqFs tb rec' fs cs ds K'
 | [], _, _, _, _, hk, h => hk _ h
 |[(off, ft)], cs, ds, K, K', hk, h => by
  simp only [eqFsE, eqFs] at h ⊢
  split at h
  ·rename_i hi; simp only [hi]
   exact selE_ok (fun a h => selE_ok (fun b h => hrec _ _ _ _ _ (fun r h => by simpa using hk _ h) h) h) h
  ·exact h.elim
 |(off, ft) :: f2 :: rest, cs, ds, K, K', hk, h => by
  simp only [eqFsE] at h
  unfold eqFs
  split at h
  ·rename_i hi; simp only [hi]
   exact selE_ok (fun a h => selE_ok (fun b h => hrec _ _ _ _ _ (fun r h => eqFsE_ok hrec (f2 :: rest) cs ds (fun r' h => hk _ h) h) h) h) h
  ·exact h.elim
theorem eqE_ok : ∀ (n : Nat) (t : TypeId) (u v : SV) {K K' : Bool → Prop}, (∀ b, K b → K' b) → eqE tb n t u v K → eqK tb n t u v K'
 | 0, _, _, _, _, _, _, h => h.elim
 |n + 1, t, u, v, K, K', hk, h => by
  unfold eqE at h
  split at h
  ·rename_i e; obtain ⟨h1, h2⟩ := chk_iff.1 h; simp only [eqK, e]; exact ⟨of_decide_eq_true h1, hk _ h2⟩
  ·rename_i e; obtain ⟨r, h1, h2⟩ := h; subst h1; simp only [eqK, e]; exact hk _ h2
  ·rename_i e; simp only [eqK, e]; exact hk _ h
  ·rename_i e; simp only [eqK, e]; exact eqFsE_ok (fun t u v K K' => eqE_ok n t u v) _ _ _ hk h
  ·exact h.elim

def valE (tb : TypeId → Option TyI) (S : St) (op : Op) (K : SV → Prop) : Prop :=
 match op with
 | .move x => K (S.ev x)
 | .assign x => K (S.ev x)
 | .pick c a b => match S.ev c with | .one (.dv (.sc (.bool q))) => br q (K (S.ev a)) (K (S.ev b)) | _ => False
 | .binOp op t x y _ =>
  (match S.ev x, S.ev y with
  | .one (.dv (.sc u)), .one (.dv (.sc v)) => binE tb op t u v fun r => K (.one (.dv (.sc r)))
  | .agg cs, .agg ds =>
   (match op with
   | .eql => eqE tb 20 t (.agg cs) (.agg ds) fun r => K (vB r)
   | .neq => eqE tb 20 t (.agg cs) (.agg ds) fun r => K (vB !r)
   | _ => False)
  | _, _ => False)
 | .unOp op _ x =>
  (match op, S.ev x with
  | .neg, .one (.dv (.sc (.int k n))) => Pick (fun y => k.wrap (0 - n) = y) fun y => K (vI k y)
  | .xor, .one (.dv (.sc (.int k n))) => K (vI k (bits .xor k (if k.signed then -1 else k.max) n))
  | .not, .one (.dv (.sc (.bool b))) => K (vB !b)
  | _, _ => False)
 | .convert src dst x =>
  (match tb src, tb dst with
  | some { kind := .slice e, .. }, some { kind := .string, .. } =>
   (match tb e with
   | some { kind := .int .u8, .. } =>
    (match S.ev x with
    | .one .nil => K (vS ⟨#[]⟩)
    | .one (.dv (.sl es)) => Pick (fun bs : List UInt8 => es = bs.map fun b => [DV.sc (.int .u8 b.toNat)]) fun bs => K (vS ⟨bs.toArray⟩)
    | .one (.os p k off len) => ownE S p fun k' es => chk (Nat.beq k k' && Nat.beq k 1) (Pick (fun bs : List UInt8 => SlOf es off len (bs.map fun b => [DV.sc (.int .u8 b.toNat)])) fun bs => K (vS ⟨bs.toArray⟩))
    | _ => False)
   | _ => False)
  | some { kind := .string, .. }, some { kind := .string, .. } => (match S.ev x with | .one (.dv (.sc (.string s))) => K (vS s) | _ => False)
  | some { kind := .string, .. }, some _ => False
  | some { kind := .slice _, .. }, some _ => False
  | some _, some { kind := .int k, .. } => (match S.ev x with | .one (.dv (.sc (.int _ n))) => Pick (fun y => k.wrap n = y) fun y => K (vI k y) | _ => False)
  | _, _ => False)
 | .fieldAddr s x f =>
  (match tb s, S.ev x with
  | some { kind := .struct fs, .. }, .one c => (match fs[f]? with | some (off, _) => (match ptrAdd c off with | some c' => K (.one c') | none => False) | none => False)
  | _, _ => False)
 | .field s x f =>
  (match tb s, S.ev x with
  | some { kind := .struct fs, .. }, .agg cs => (match fs[f]? with | some (off, t) => (match tb t with | some i => selE i cs off K | none => False) | none => False)
  | _, _ => False)
 | .indexAddr t x ix => mapInt S ix fun _ n =>
  (match tb t, S.ev x with
  |some { kind := .slice e, .. }, .one (.dv (.sl es)) => (match tb e with
   | some { size := sz, .. } => Pick (fun cells => 0 ≤ n ∧ es[n.toNat]? = some cells) fun cells => chk (Nat.beq cells.length sz) (K (.one (.dp cells 0)))
   | none => False)
  | some { kind := .slice e, .. }, .one (.os p k off len) => (match tb e with | some { size := sz, .. } => chk (Nat.beq sz k) (Need (0 ≤ n ∧ n < (len : Int)) (K (.one (.ep p k (addN off n.toNat) 0)))) | none => False)
  | some { kind := .array m e, .. }, .one (.ep p k q f) => (match tb e with | some i => Need (0 ≤ n ∧ n < (m : Int)) (Pick (fun f' => f + n.toNat * i.size = f') fun f' => K (.one (.ep p k q f'))) | none => False)
  | some { kind := .array m e, .. }, .one c => (match tb e with | some i => Need (0 ≤ n ∧ n < (m : Int)) (match ptrAdd c (n.toNat * i.size) with | some c' => K (.one c') | none => False) | none => False)
  | _, _ => False)
 | .index t x ix => mapInt S ix fun _ n =>
  (match tb t, S.ev x with
  | some { kind := .array m e, .. }, .agg cs => (match tb e with | some i => Need (0 ≤ n ∧ n < (m : Int)) (selP i cs (n.toNat * i.size) K) | none => False)
  | some { kind := .array m e, .. }, .arr ds => (match tb e with | some i => Need (0 ≤ n ∧ n < (m : Int)) (selA i ds (n.toNat * i.size) K) | none => False)
  | some { kind := .string, .. }, .one (.dv (.sc (.string s))) => Pick (fun b : UInt8 => 0 ≤ n ∧ s[n.toNat]? = some b) fun b => K (vI .u8 b.toNat)
  | _, _ => False)
 | .slice t x lo hi mx =>
  (match mx with
  |none => (match tb t, S.ev x with
   | some { kind := .string, .. }, .one (.dv (.sc (.string s))) => Pick (fun n : Nat => s.size = n) fun n => boundE S hi n n fun h => boundE S lo 0 h fun l => Pick (fun r => s.extract l h = r) fun r => K (vS r)
   |some { kind := .slice e, .. }, .one (.dv (.sl es)) => (match tb e with
    | some { size := sz, .. } => Need (∀ e ∈ es, e.length = sz) (Pick (fun n : Nat => es.length = n) fun n => boundE S hi n n fun h => boundE S lo 0 h fun l => Pick (fun r => (es.take h).drop l = r) fun r => K (.one (.dv (.sl r))))
    | none => False)
   |some { kind := .slice e, .. }, .one (.os p k off len) => (match tb e with
    | some i => chk (Nat.beq i.size k) (boundE S hi len len fun h => boundE S lo 0 h fun l => K (.one (.os p k (off + l) (h - l))))
    | none => False)
   |some { kind := .array m e, .. }, .one (.ptr p o) => (match tb e, lo, hi with
    | some i, none, none => K (.one (.sb p o i.size m))
    | _, _, _ => False)
   | _, _ => False)
  | some _ => False)
 | .extract x ix =>
  (match S.ev x with
  | .tup vs => (match vs[ix]? with | some (true, cs) => K (.agg cs) | some (false, [c]) => K (.one c) | _ => False)
  | _ => False)
 | .nilCheck x =>
  (match S.ev x with
  | .one (.ptr p o) => K (.one (.ptr p o))
  | .one (.ep p k i f) => K (.one (.ep p k i f))
  | .one (.dp c f) => K (.one (.dp c f))
  | .one (.dv (.sc (.func (.func f) u v))) => K (.one (.dv (.sc (.func (.func f) u v))))
  | _ => False)
 | .build t parts =>
  (match tb t with
  | some { kind := .struct fs, zero := z, .. } =>
   chk (!z.isEmpty) (fillE (fieldPlaceD tb fs) (z.map Z.cv) (parts.toList.map fun p => (p.1, S.ev p.2)) fun cs => K (.agg cs))
  | some { kind := .array _ e, zero := z, .. } =>
   (match tb e with
   | some i => chk (!z.isEmpty) (fillE (fun j => some (j * i.size, i.size)) (z.map Z.cv) (parts.toList.map fun p => (p.1, S.ev p.2)) fun cs => K (.agg cs))
   | none => False)
  | _ => False)
 | .load t x =>
  (match tb t, S.ev x with
  | some i, .one c => ptrE S i c K
  | _, _ => False)
 | .call c =>
  (match c.callee with
  |.builtin .len => (match c.args.toList, c.argTypes.toList with
   | [x], [t] =>
    (match tb t, S.ev x with
    | some { kind := .string, .. }, .one (.dv (.sc (.string s))) => Pick (fun n : Nat => s.size = n) fun n => K (vI .i64 n)
    | some { kind := .slice _, .. }, .one (.dv (.sl es)) => Pick (fun n : Nat => es.length = n) fun n => K (vI .i64 n)
    | some { kind := .slice _, .. }, .one (.os _ _ _ n) => K (vI .i64 n)
    | some { kind := .slice _, .. }, .one .nil => K (vI .i64 0)
    | some { kind := .array n _, .. }, _ => K (vI .i64 n)
    | _, _ => False)
   | _, _ => False)
  | _ => callValD tb S c.callee c.args.toList c.argTypes.toList K)
 | _ => False

theorem valE_ok {op : Op} {K K' : SV → Prop} (hk : ∀ r, K r → K' r) (h : valE tb S op K) : valX tb S op K' := by
 cases op <;> simp only [valE] at h <;> simp only [valX, valD] <;> first
  | exact hk _ h
  | exact h.elim
  | skip
 case call c =>
  split at h
  ·rename_i e0
   simp only [callValD, e0]
   split at h
   ·rename_i e1 e2; simp only [e1, e2, lenD]
    split at h
    ·rename_i e3 e4; simp only [e3, e4]; obtain ⟨n, g1, g2⟩ := h; subst g1; exact hk _ g2
    ·rename_i e3 e4; simp only [e3, e4]; obtain ⟨n, g1, g2⟩ := h; subst g1; exact hk _ g2
    ·rename_i e3 e4; simp only [e3, e4]; exact hk _ h
    ·rename_i e3 e4; simp only [e3, e4]; exact hk _ h
    ·rename_i e3; simp only [e3]; exact hk _ h
    ·exact h.elim
   ·exact h.elim
  ·exact callValD_mono hk h
 case pick =>
  split at h
  ·rename_i q e; simp only [e]; rw [pickS_eq]
   obtain ⟨h1, h2⟩ := br_iff.1 h
   cases q
   ·simpa using hk _ (h2 rfl)
   ·simpa using hk _ (h1 rfl)
  ·exact h.elim
 case binOp =>
  split at h
  ·rename_i e1 e2; simp only [e1, e2]; exact binE_ok (fun _ h => hk _ h) h
  ·rename_i e1 e2; simp only [e1, e2]
   split at h
   ·exact eqE_ok _ _ _ _ (fun _ h => hk _ h) h
   ·exact eqE_ok _ _ _ _ (fun _ h => hk _ h) h
   ·exact h.elim
  ·exact h.elim
 case unOp =>
  split at h
  ·rename_i e; simp only [e]; obtain ⟨y, g1, g2⟩ := h; subst g1; exact hk _ g2
  ·rename_i e; simp only [e]; exact hk _ h
  ·rename_i e; simp only [e]; exact hk _ h
  ·exact h.elim
 case convert s t x =>
  split at h
  ·rename_i e _ _ _ _ _ _ _ _ h1 h2
   split at h
   ·rename_i h3
    split at h
    ·rename_i h4
     simp only [h1, h2, h3, h4, srcD]
     exact ⟨[], rfl, hk _ h⟩
    ·rename_i es h4
     obtain ⟨bs, g1, g2⟩ := h
     simp only [h1, h2, h3, h4, srcD]
     exact ⟨by rw [g1]; simp, bs, g1, hk _ g2⟩
    ·rename_i p k off len h4
     obtain ⟨k', es, h5, h⟩ := ownE_ok h
     obtain ⟨h6, bs, ⟨g1, g2⟩, g3⟩ := chk_iff.1 h
     simp only [Bool.and_eq_true] at h6
     have e1 := Nat.eq_of_beq_eq_true h6.1
     have e2 := Nat.eq_of_beq_eq_true h6.2
     simp only [h1, h2, h3, h4, srcD, h5]
     exact ⟨⟨e1, e2, g1, by rw [g2]; exact Fz.map _ _ _ fun _ => rfl⟩, bs, g2, hk _ g3⟩
    ·exact h.elim
   ·exact h.elim
  ·rename_i h1 h2
   split at h
   ·rename_i h3; simp only [h1, h2, h3]; exact hk _ h
   ·exact h.elim
  ·exact h.elim
  ·exact h.elim
  ·rename_i h1 h2
   split at h
   ·rename_i h3; simp only [h1, h2, h3]; obtain ⟨y, g1, g2⟩ := h; subst g1; exact hk _ g2
   ·exact h.elim
  ·exact h.elim
 case fieldAddr =>
  split at h
  ·rename_i e1 e2; simp only [e1, e2]
   split at h
   ·rename_i e3; simp only [e3]
    split at h
    ·rename_i e4; simp only [e4]; exact hk _ h
    ·exact h.elim
   ·exact h.elim
  ·exact h.elim
 case field =>
  split at h
  ·rename_i e1 e2; simp only [e1, e2]
   split at h
   ·rename_i e3; simp only [e3]
    split at h
    ·rename_i e4; simp only [e4]; exact selE_ok hk h
    ·exact h.elim
   ·exact h.elim
  ·exact h.elim
 case indexAddr =>
  refine mapInt_mono (fun k n h => ?_) h
  split at h
  ·rename_i e1 e2; simp only [e1, e2]
   split at h
   ·rename_i e3; simp only [e3]
    obtain ⟨cells, ⟨g1, g2⟩, g3⟩ := h
    obtain ⟨g4, g5⟩ := chk_iff.1 g3
    have g6 : ∀ es : List (List DV), es[n.toNat]? = some cells → es.getD n.toNat [] = cells := fun es h => by simp [List.getD, h]
    have g7 := (List.getElem?_eq_some_iff.1 g2).1
    rw [g6 _ g2]
    exact ⟨⟨⟨g1, by omega⟩, Nat.eq_of_beq_eq_true g4⟩, hk _ g5⟩
   ·exact h.elim
  ·rename_i e1 e2; simp only [e1, e2]
   split at h
   ·rename_i e3; simp only [e3]
    obtain ⟨g1, g2⟩ := chk_iff.1 h
    exact ⟨Nat.eq_of_beq_eq_true g1, g2.1, by rw [← addN_eq]; exact hk _ g2.2⟩
   ·exact h.elim
  ·rename_i e1 e2; simp only [e1, e2]
   split at h
   ·rename_i e3; simp only [e3]
    obtain ⟨h0, f', g1, h⟩ := h
    subst g1
    exact ⟨h0, by simp only [ptrAdd]; exact hk _ h⟩
   ·exact h.elim
  ·rename_i e1 e2; simp only [e1, e2]
   split at h
   ·rename_i e3; simp only [e3]
    refine ⟨h.1, ?_⟩
    replace h := h.2
    split at h
    ·rename_i e4; simp only [e4]; exact hk _ h
    ·exact h.elim
   ·exact h.elim
  ·exact h.elim
 case index =>
  refine mapInt_mono (fun k n h => ?_) h
  split at h
  ·rename_i e1 e2; simp only [e1, e2]
   split at h
   ·rename_i e3; simp only [e3]; exact ⟨h.1, selP_ok hk h.2⟩
   ·exact h.elim
  ·rename_i e1 e2; simp only [e1, e2]
   split at h
   ·rename_i e3; simp only [e3]; exact ⟨h.1, selA_ok hk h.2⟩
   ·exact h.elim
  ·rename_i e1 e2; simp only [e1, e2]
   obtain ⟨b, ⟨g1, g2⟩, g3⟩ := h
   exact ⟨g1, by simp only [g2]; exact hk _ g3⟩
  ·exact h.elim
 case slice =>
  split at h
  ·split at h
   ·rename_i e1 e2; simp only [e1, e2]; obtain ⟨n, g1, h⟩ := h; subst g1; exact ⟨trivial, boundE_ok (fun _ h => boundE_ok (fun _ h => by obtain ⟨r, g2, g3⟩ := h; subst g2; exact hk _ g3) h) h⟩
   ·rename_i e1 e2; simp only [e1, e2]
    split at h
    ·rename_i e3; simp only [e3]; obtain ⟨h0, n, g1, h⟩ := h; subst g1; exact ⟨h0, trivial, boundE_ok (fun _ h => boundE_ok (fun _ h => by obtain ⟨r, g2, g3⟩ := h; subst g2; exact hk _ g3) h) h⟩
    ·exact h.elim
   ·rename_i e1 e2; simp only [e1, e2]
    split at h
    ·rename_i e3; simp only [e3]
     obtain ⟨g1, g2⟩ := chk_iff.1 h
     exact ⟨Nat.eq_of_beq_eq_true g1, trivial, boundE_ok (fun _ h => boundE_ok (fun _ h => hk _ h) h) g2⟩
    ·exact h.elim
   ·rename_i e1 e2; simp only [e1, e2]
    split at h
    ·rename_i e3; simp only [e3]; exact ⟨⟨trivial, trivial, trivial⟩, hk _ h⟩
    ·exact h.elim
   ·exact h.elim
  ·exact h.elim
 case extract =>
  split at h
  ·rename_i e1; simp only [e1]
   split at h
   ·rename_i e2; simp only [e2]; exact .inl (hk _ h)
   ·rename_i e2; simp only [e2]; exact hk _ h
   ·exact h.elim
  ·exact h.elim
 case nilCheck =>
  split at h <;> first
   | (rename_i e; simp only [e]; exact hk _ h)
   | exact h.elim
 case build =>
  split at h
  ·rename_i e1; simp only [e1]
   obtain ⟨h0, h⟩ := chk_iff.1 h
   obtain ⟨cs, e2, h⟩ := fillE_ok h
   simp only [e2]; exact ⟨by simpa using h0, hk _ h⟩
  ·rename_i e1; simp only [e1]
   split at h
   ·rename_i e2; simp only [e2]
    obtain ⟨h0, h⟩ := chk_iff.1 h
    obtain ⟨cs, e3, h⟩ := fillE_ok h
    simp only [e3]; exact ⟨by simpa using h0, hk _ h⟩
   ·exact h.elim
  ·exact h.elim
 case load =>
  split at h
  ·rename_i e1 e2; simp only [e1, e2]
   obtain ⟨cs, o, g1, g2⟩ := ptrE_ok hk h
   simp only [g1]
   exact g2
  ·exact h.elim
end
end Go.Proofs.Ytpdjehnlejjfmaa.D
/- The steps of a run, in the form that is gone through by reduction: memory and calls. -/
namespace Go.Proofs.Ytpdjehnlejjfmaa.D
open Go.RowKit
set_option linter.unusedVariables false

inductive CallW (P : Program) (f : FuncId) (args : List SV) (Li : List Row) (bor : Bool) (K : List Nat → SV → List Row → Prop) : Prop
 | mk (mv : List Nat) (cl : Bool) (Post : SV → List Row → Prop) (h : CallM P f args Li mv cl Post) (hcl : bor = true → cl = true) (k : ∀ res Lo, Post res Lo → K mv res Lo)
theorem CallW.d {P : Program} {f : FuncId} {args : List SV} {Li Lo : List Row} {bor : Bool} {res : SV} {K : List Nat → SV → List Row → Prop} (h : CallD P f args Li res Lo) (k : K [] res Lo) : CallW P f args Li bor K :=
 ⟨_, _, _, h, fun _ => rfl, fun _ _ h => by obtain ⟨rfl, rfl⟩ := h; exact k⟩
theorem CallW.r {P : Program} {f : FuncId} {args : List SV} {Li : List Row} {mv : List Nat} {bor : Bool} {Post : SV → List Row → Prop} {K : List Nat → SV → List Row → Prop} (h : CallM P f args Li mv true Post) (k : ∀ res Lo, Post res Lo → K mv res Lo) : CallW P f args Li bor K :=
 ⟨_, _, _, h, fun _ => rfl, k⟩
theorem CallW.n {P : Program} {f : FuncId} {args : List SV} {Li : List Row} {mv : List Nat} {cl : Bool} {Post : SV → List Row → Prop} {K : List Nat → SV → List Row → Prop} (h : CallM P f args Li mv cl Post) (k : ∀ res Lo, Post res Lo → K mv res Lo) : CallW P f args Li false K :=
 ⟨_, _, _, h, fun h => by simp at h, k⟩
abbrev CallMD (P : Program) (f : FuncId) (args : List SV) (Li : List Row) (mv : List Nat) (res : SV) (Lo : List Row) : Prop := CallM P f args Li mv true fun r l => r = res ∧ l = Lo
theorem CallW.m {P : Program} {f : FuncId} {args : List SV} {Li Lo : List Row} {mv : List Nat} {bor : Bool} {res : SV} {K : List Nat → SV → List Row → Prop} (h : CallMD P f args Li mv res Lo) (k : K mv res Lo) : CallW P f args Li bor K :=
 ⟨_, _, _, h, fun _ => rfl, fun _ _ h => by obtain ⟨rfl, rfl⟩ := h; exact k⟩
inductive OwnQ (X : Bool → Prop) : Prop
 | mk (own : Bool) (h : X own)
inductive Hand (X : List Nat → Prop) : Prop
 | mk (own : List Nat) (h : X own)

section
variable {P : Program} {tb : TypeId → Option TyI} {S : St}

def fresh (S : St) (nm : Nat) : Bool := (match S.L nm with | none => true | some _ => false) && Nat.ble 1000 nm
theorem fresh_iff {nm : Nat} (h : fresh S nm = true) : S.L nm = none ∧ 1000 ≤ nm := by
 simp only [fresh, Bool.and_eq_true] at h
 refine ⟨?_, Nat.le_of_ble_eq_true h.2⟩
 cases hL : S.L nm with
 | none => rfl
 | some r => rw [hL] at h; simp at h
def newB (p : Nat) : Bool := Nat.ble 1000 p && Nat.blt p TKN
theorem newB_ok {p : Nat} (h : newB p = true) : newN p := by
 simp only [newB, Bool.and_eq_true] at h
 exact ⟨Nat.le_of_ble_eq_true h.1, by simpa [Nat.blt_eq] using h.2⟩
def deepE (ks : List Nat) (S : St) : List CV → (St → List DV → Prop) → Prop
 | [], K => K S []
 | c :: cs, K =>
  match killAll ks c with
  | .dv d => deepE ks S cs fun S' ds => K S' (d :: ds)
  | .nil => deepE ks S cs fun S' ds => K S' (.sl [] :: ds)
  | .os (.v p) k off len =>
   (match S.L p with
   | some (.own k' es) => chk (Nat.beq k k' && newB p) (Pick (SlF es off len) fun xs => deepE (ks ++ [p]) (S.frz p) cs fun S' ds => K S' (.sl xs :: ds))
   | _ => False)
  | _ => False
theorem killAll_snoc (ks : List Nat) (p : Nat) (c : CV) : killAll (ks ++ [p]) c = killC p (killAll ks c) := by
 induction ks generalizing c with
 | nil => rfl
 | cons k ks ih => exact ih _
theorem deepE_ok : ∀ (cs : List CV) (ks : List Nat) (S : St) {K K' : St → List DV → Prop}, (∀ T ds, K T ds → K' T ds) → deepE ks S cs K → deepCells S (cs.map (killAll ks)) K'
 | [], ks, S, K, K', hk, h => by simp only [List.map_nil, deepCells]; exact hk _ _ h
 |c :: cs, ks, S, K, K', hk, h => by
  unfold deepE at h
  rw [List.map_cons]
  unfold deepCells
  split at h
  ·rename_i e; simp only [e]; exact deepE_ok cs ks S (fun _ _ h => hk _ _ h) h
  ·rename_i e; simp only [e]; exact deepE_ok cs ks S (fun _ _ h => hk _ _ h) h
  ·rename_i p k off len e; simp only [e]
   split at h
   ·rename_i e2; simp only [e2]
    obtain ⟨h1, xs, ⟨h2, h3⟩, h4⟩ := chk_iff.1 h
    simp only [Bool.and_eq_true] at h1
    refine ⟨xs, ⟨Nat.eq_of_beq_eq_true h1.1, h2, newB_ok h1.2, h3⟩, ?_⟩
    have := deepE_ok cs _ _ (K' := fun S' ds => K' S' (.sl xs :: ds)) (fun _ _ h => hk _ _ h) h4
    rw [List.map_map]
    have e3 : (killC p ∘ killAll ks) = killAll (ks ++ [p]) := by funext c; exact (killAll_snoc ks _ c).symm
    rw [e3]; exact this
   ·exact h.elim
  ·exact h.elim
theorem deepE_ok' {cs : List CV} {S : St} {K K' : St → List DV → Prop} (hk : ∀ T ds, K T ds → K' T ds) (h : deepE [] S cs K) : deepCells S cs K' := by
 have := deepE_ok cs [] S hk h
 have e : cs.map (killAll []) = cs := by
  have : killAll [] = id := by funext c; rfl
  rw [this, List.map_id]
 rwa [e] at this
def wsOf (tb : TypeId → Option TyI) : Nat → TypeId → List Nat
 | 0, _ => []
 |n + 1, t => match tb t with
  | some { kind := .slice e, .. } => (match tb e with | some { size := sz, .. } => [sz] | none => [0])
  | some { kind := .array m e, .. } => (List.replicate m (wsOf tb n e)).flatten
  | some { kind := .struct fs, .. } => (fs.map fun f => wsOf tb n f.2).flatten
  | _ => [0]
def moveE (S : St) (pr : Nat) : Option (Nat × Nat) → List Nat → List CV → (List DV → List (Option Nat) → Prop) → Prop
 | _, _, [], K => K [] []
 | pl, ws, c :: cs, K =>
  match c with
  | .dv d => moveE S pr (nextP pl) ws.tail cs fun ds qs => K (d :: ds) (none :: qs)
  | .nil => fN (ws.headD 0) fun w => moveE S pr (nextP pl) ws.tail cs fun ds qs => K (.ow w 0 0 [] :: ds) (none :: qs)
  | .os (.h p i j) k off len =>
   (match pl with
   | some (i0, j0) => chk (Nat.beq p pr) (Need (i = i0 ∧ j = j0) (ownE S (.h p i j) fun k' es => chk (Nat.beq k k') (Need (off + len ≤ es.length ∧ 0 < len) (moveE S pr (nextP pl) ws.tail cs fun ds qs => K (.ow k off len es :: ds) (none :: qs)))))
   | none => False)
  | .os (.v q) k off len =>
   (match S.L q with
   | some (.own k' es) => chk (Nat.beq k k' && (newB q || Nat.beq (rt q) (rt pr)) && !Nat.beq q pr) (Need (off + len = es.length ∧ (off = 0 ∨ 0 < len)) (Need (Fz es es) (moveE S pr (nextP pl) ws.tail cs fun ds qs => K (.ow k off len es :: ds) (some q :: qs))))
   | _ => False)
  | _ => False
theorem moveE_ok {pr : Nat} : ∀ {pl : Option (Nat × Nat)} {ws : List Nat} {cs : List CV} {K K' : List DV → List (Option Nat) → Prop}, (∀ ds qs, K ds qs → K' ds qs) → moveE S pr pl ws cs K → moveD S pr pl ws cs K'
 | _, _, [], K, K', hk, h => hk _ _ h
 |pl, ws, c :: cs, K, K', hk, h => by
  unfold moveE at h; unfold moveD
  split at h
  ·exact moveE_ok (fun _ _ h => hk _ _ h) h
  ·exact moveE_ok (fun _ _ h => hk _ _ h) (fN_iff.1 h)
  ·split at h
   ·obtain ⟨h1, ⟨h2, h3⟩, h4⟩ := chk_iff.1 h
    obtain ⟨k', es, e, h5⟩ := ownE_ok h4
    obtain ⟨h6, h7, h8⟩ := chk_iff.1 h5
    refine ⟨⟨Nat.eq_of_beq_eq_true h1, h2, h3⟩, ?_⟩
    simp only [e]
    exact ⟨⟨Nat.eq_of_beq_eq_true h6, h7.1, h7.2⟩, moveE_ok (fun _ _ h => hk _ _ h) h8⟩
   ·exact h.elim
  ·split at h
   ·rename_i e; simp only [e]
    obtain ⟨h1, h2, h3, h4⟩ := chk_iff.1 h
    simp only [Bool.and_eq_true, Bool.or_eq_true, Bool.not_eq_true'] at h1
    refine ⟨⟨Nat.eq_of_beq_eq_true h1.1.1, h2.1, h2.2, h3, h1.1.2.imp newB_ok Nat.eq_of_beq_eq_true, fun e => by have := h1.2; rw [e] at this; simp at this⟩, moveE_ok (fun _ _ h => hk _ _ h) h4⟩
   ·exact h.elim
  ·exact h.elim
def nodupB : List Nat → Bool
 | [] => true
 | x :: xs => !(xs.any fun y => Nat.beq x y) && nodupB xs
theorem nodupB_ok : ∀ {xs : List Nat}, nodupB xs = true → xs.Nodup
 | [], _ => by simp
 |x :: xs, h => by
  simp only [nodupB, Bool.and_eq_true, Bool.not_eq_true'] at h
  refine List.nodup_cons.2 ⟨fun hm => ?_, nodupB_ok h.2⟩
  have := List.any_eq_false.1 h.1 x hm
  simp at this
def somes : List (Option Nat) → List Nat | [] => [] | none :: r => somes r | some q :: r => q :: somes r
theorem somes_eq : ∀ qs : List (Option Nat), somes qs = qs.filterMap id
 | [] => rfl
 | none :: r => by simp [somes, somes_eq r]
 | some q :: r => by simp [somes, somes_eq r]
theorem ndup_ok {qs : List (Option Nat)} (h : nodupB (somes qs) = true) : ndup qs := by unfold ndup; rw [← somes_eq]; exact nodupB_ok h
def srcE (S : St) (size : Nat) (v : SV) (K : List (List DV) → Prop) : Prop :=
 match v with
 | .one .nil => K []
 | .one (.dv (.sl es)) => Need (∀ e ∈ es, e.length = size) (K es)
 | .one (.os p k off len) => ownE S p fun k' es => chk (Nat.beq k k' && Nat.beq k size) (Pick (SlOf es off len) fun xs => Need (Fz xs xs) (K xs))
 | .one (.dv (.sc (.string s))) => chk (Nat.beq size 1) (K (s.data.toList.map fun b => [.sc (.int .u8 b.toNat)]))
 | _ => False
theorem srcE_ok {size : Nat} {v : SV} {K K' : List (List DV) → Prop} (hk : ∀ es, K es → K' es) (h : srcE S size v K) : srcD S size v K' := by
 unfold srcE at h; unfold srcD
 split at h
 ·exact hk _ h
 ·exact ⟨h.1, hk _ h.2⟩
 ·obtain ⟨k', es, e, h⟩ := ownE_ok h
  simp only [e]
  obtain ⟨h1, xs, ⟨h2, h3⟩, h5, h4⟩ := chk_iff.1 h
  simp only [Bool.and_eq_true] at h1
  subst h3
  exact ⟨⟨Nat.eq_of_beq_eq_true h1.1, Nat.eq_of_beq_eq_true h1.2, h2, h5⟩, hk _ h4⟩
 ·obtain ⟨h1, h2⟩ := chk_iff.1 h
  exact ⟨Nat.eq_of_beq_eq_true h1, hk _ h2⟩
 ·exact h.elim
def splice (old : List DV) (f : Nat) (ds : List DV) : List DV := old.take f ++ ds ++ old.drop (f + ds.length)
def ownsC : CV → Bool | .os _ _ _ _ => true | .nil => true | _ => false
def storeH (S : St) (p a b k i f k0 : Nat) (es0 : List (List DV)) (e ds : List DV) (K : St → Prop) (d : DV) : Prop :=
 match d with
 | .ow k' off len es => chk (Nat.beq k k') (Pick (fun old => es[i]? = some old) fun old => Need (f + ds.length ≤ k) (Pick (fun es' => es.set i (splice old f ds) = es') fun es' =>
   Pick (fun es0' => es0.set a (e.set b (.ow k' off len es')) = es0') fun es0' => K (S.new p (.own k0 es0'))))
 | _ => False
def storeE (S : St) (c : CV) (ws : List Nat) (cs : List CV) (K : St → Prop) : Prop :=
 match c with
 | .ptr p off => (match S.L p with | some (.box old) => chk (Nat.ble (off + cs.length) old.length) (fCs (old.take off ++ cs ++ old.drop (off + cs.length)) fun cells => K (S.new p (.box cells))) | _ => False)
 | .ep (.v p) k i f =>
  (fun frz => match cs.any ownsC with
   | false => frz
   |true => OwnQ fun own => (match own with
    | false => frz
    | true => fNs ws fun ws => moveE S p (some (i, f)) ws cs fun ds qs =>
     (match S.L p with
     | some (.own k' es) => chk (Nat.beq k k' && nodupB (somes qs)) (Pick (fun old => es[i]? = some old) fun old => Need (f + ds.length ≤ k) (Pick (fun es' => es.set i (splice old f ds) = es') fun es' => K (((S.gone qs).killH p).new p (.own k es'))))
     | _ => False)))
  (deepE [] S cs fun S' ds =>
   (match S'.L p with
   | some (.own k' es) => chk (Nat.beq k k') (Pick (fun old => es[i]? = some old) fun old => Need (f + ds.length ≤ k) (Pick (fun es' => es.set i (splice old f ds) = es') fun es' => K (S'.new p (.own k es'))))
   | _ => False))
 | .ep (.h p a b) k i f =>
  (match plainCs cs, S.L p with
  | some ds, some (.own k0 es0) => Pick (fun e => es0[a]? = some e) fun e =>
   (match wideK k0 with
    | true => Pick (fun d => e[b]? = some d) fun d => storeH S p a b k i f k0 es0 e ds K d
    | false => (match e[b]? with | some d => storeH S p a b k i f k0 es0 e ds K d | none => False))
  | _, _ => False)
 | _ => False
theorem frz_ok {p k i f : Nat} {cs : List CV} {K K' : St → Prop} (hk : ∀ T, K T → K' T) (h : deepE [] S cs fun S' ds =>
      (match S'.L p with
      | some (.own k' es) => chk (Nat.beq k k') (Pick (fun old => es[i]? = some old) fun old => Need (f + ds.length ≤ k) (Pick (fun es' => es.set i (splice old f ds) = es') fun es' => K (S'.new p (.own k es'))))
      | _ => False)) : deepCells S cs fun S' ds =>
      (match S'.L p with
      | some (.own k' es) => (k = k' ∧ i < es.length ∧ f + ds.length ≤ k) ∧ K' (S'.new p (.own k (es.set i ((es.getD i []).take f ++ ds ++ (es.getD i []).drop (f + ds.length)))))
      | _ => False) := by
  refine deepE_ok' (fun T ds h2 => ?_) h
  cases hT : T.L p with
  | none => rw [hT] at h2; exact h2.elim
  | some r =>
    rw [hT] at h2
    cases r with
    | box cs => exact h2.elim
    | own k' es =>
      obtain ⟨h1, old, h2, h4, _, rfl, h3⟩ := chk_iff.1 h2
      refine ⟨⟨Nat.eq_of_beq_eq_true h1, (List.getElem?_eq_some_iff.1 h2).1, h4⟩, ?_⟩
      simp only [List.getD, h2, Option.getD_some]
      exact hk _ h3
theorem storeE_ok {c : CV} {ws : List Nat} {cs : List CV} {K K' : St → Prop} (hk : ∀ T, K T → K' T) (h : storeE S c ws cs K) : storeD S c cs K' := by
 unfold storeE at h; unfold storeD
 split at h
 ·split at h
  ·rename_i e; simp only [e]
   obtain ⟨h1, h2⟩ := chk_iff.1 h
   exact ⟨Nat.le_of_ble_eq_true h1, hk _ (fCs_iff.1 h2)⟩
  ·exact h.elim
 ·rename_i p k i f
  have frz := fun h => frz_ok (S := S) (p := p) (k := k) (i := i) (f := f) (cs := cs) hk h
  simp only at h
  split at h
  ·exact .inl (frz h)
  ·obtain ⟨own, h⟩ := h
   cases own with
   | false => exact .inl (frz h)
   | true =>
    refine .inr ⟨ws, moveE_ok (fun ds qs h => ?_) (fNs_iff.1 h)⟩
    split at h
    ·rename_i e; simp only [e]
     obtain ⟨h1, old, h2, h4, _, rfl, h3⟩ := chk_iff.1 h
     simp only [Bool.and_eq_true] at h1
     refine ⟨⟨Nat.eq_of_beq_eq_true h1.1, (List.getElem?_eq_some_iff.1 h2).1, h4, ndup_ok h1.2⟩, ?_⟩
     simp only [List.getD, h2, Option.getD_some]
     exact hk _ h3
    ·exact h.elim
 ·rename_i p a b k i f
  split at h
  ·rename_i ds k0 es0 e1 e2
   obtain ⟨e, h1, h⟩ := h
   simp only [e1, e2, h1]
   have fin : ∀ {d : DV}, e[b]? = some d → storeH S p a b k i f k0 es0 e ds K d → (match e[b]? with
    | some (.ow k' off len es) => (k = k' ∧ i < es.length ∧ f + ds.length ≤ k) ∧ K' (S.new p (.own k0 (es0.set a (e.set b (.ow k' off len (es.set i ((es.getD i []).take f ++ ds ++ (es.getD i []).drop (f + ds.length))))))))
    | _ => False) := fun {d} hd h => by
    unfold storeH at h
    split at h
    ·simp only [hd]
     obtain ⟨g1, old, g2, g3, _, rfl, _, rfl, g4⟩ := chk_iff.1 h
     refine ⟨⟨Nat.eq_of_beq_eq_true g1, (List.getElem?_eq_some_iff.1 g2).1, g3⟩, ?_⟩
     simp only [List.getD, g2, Option.getD_some]
     exact hk _ g4
    ·exact h.elim
   split at h
   ·obtain ⟨d, h2, h⟩ := h
    exact fin h2 h
   ·split at h
    ·rename_i h2; exact fin h2 h
    ·exact h.elim
  ·exact h.elim
 ·exact h.elim
def eatB (S : St) (nm p sz : Nat) (v : SV) : Option (Nat × Nat × Nat × List (List DV)) :=
 match v with
 |.one (.os (.v q) k off len) => (match S.L q with
  | some (.own k' es) => (match Nat.beq (q / 4096) (nm / 4096) && Nat.ble 2 k && Nat.beq k k' && Nat.beq k sz && !Nat.beq q p && newB q with | true => some (q, off, len, es) | false => none)
  | _ => none)
 | _ => none
theorem eatB_ok {nm p sz : Nat} {v : SV} {q off len : Nat} {es : List (List DV)} {K : Nat → Nat → List (List DV) → Prop} (h : eatB S nm p sz v = some (q, off, len, es)) (h2 : off + len ≤ es.length) (k : K q off ((es.drop off).take len)) : eatD S p sz v K := by
 unfold eatB at h
 split at h
 ·split at h
  ·rename_i e
   split at h
   ·rename_i e2
    simp only [Option.some.injEq, Prod.mk.injEq] at h
    obtain ⟨rfl, rfl, rfl, rfl⟩ := h
    simp only [Bool.and_eq_true, Bool.not_eq_true'] at e2
    simp only [eatD, e]
    exact ⟨⟨Nat.eq_of_beq_eq_true e2.1.1.1.2, Nat.eq_of_beq_eq_true e2.1.1.2, h2, fun e => by have := e2.1.2; rw [e] at this; simp at this, newB_ok e2.2⟩, k⟩
   ·simp at h
  ·simp at h
 ·simp at h
def pickC (k0 : Nat) (e : List DV) (j : Nat) (K : DV → Prop) : Prop :=
 match wideK k0 with
 | true => Pick (fun d => e[j]? = some d) K
 | false => (match e[j]? with | some d => K d | none => False)
theorem pickC_ok {k0 : Nat} {e : List DV} {j : Nat} {K : DV → Prop} (h : pickC k0 e j K) : ∃ d, e[j]? = some d ∧ K d := by
 unfold pickC at h
 split at h
 ·obtain ⟨d, h1, h2⟩ := h; exact ⟨d, h1, h2⟩
 ·split at h
  ·rename_i d h1; exact ⟨d, h1, h⟩
  ·exact h.elim
def appHE (nm : Nat) (S : St) (dst : Option Tmp) (sz bt p i1 j1 k len : Nat) (xv : SV) (K : St → Prop) : Prop :=
 match S.L p with
 | some (.own k0 es0) => Pick (fun e => es0[i1]? = some e) fun e => pickC k0 e j1 fun d =>
  (match d with
  | .ow k' _ _ es => chk (Nat.beq k sz && Nat.beq k' k && fresh S (outN p nm) && Nat.blt nm TKN) (Pick (SlOf es 0 len) fun old => srcE S sz xv fun news => Pick (fun n : Nat => len + news.length = n) fun n =>
   Need (0 < news.length ∧ (2 * n + 1024) * bt ≤ 2 ^ 48 ∧ n ≤ 2 ^ 48) (Pick (fun es => old ++ news = es) fun es => Pick (fun es0' => es0.set i1 (e.set j1 .no) = es0') fun es0' => fN (outN p nm) fun out =>
    K ((((S.killH p).new p (.own k0 es0')).new out (.own k es)).put dst (.one (.os (.v out) k 0 n)))))
  | _ => False)
 | _ => False
theorem appHE_ok {nm : Nat} {dst : Option Tmp} {sz bt p i1 j1 k len : Nat} {xv : SV} {K K' : St → Prop} (hk : ∀ T, K T → K' T) (h : appHE nm S dst sz bt p i1 j1 k len xv K) :
  (match S.Lx (.h p i1 j1) with
    | some (k', es) => (k = sz ∧ k' = k ∧ len ≤ es.length ∧ S.L (outN p nm) = none ∧ nm < TKN) ∧ srcD S sz xv fun news =>
     (0 < news.length ∧ (2 * (len + news.length) + 1024) * bt ≤ 2 ^ 48 ∧ len + news.length ≤ 2 ^ 48) ∧ K' (((S.takeOut p i1 j1).new (outN p nm) (.own k (es.take len ++ news))).put dst (.one (.os (.v (outN p nm)) k 0 (len + news.length))))
    | _ => False) := by
 unfold appHE at h
 split at h
 ·rename_i k0 es0 e1
  obtain ⟨e, h1, h⟩ := h
  obtain ⟨d, h2, h⟩ := pickC_ok h
  split at h
  ·rename_i k' off0 len0 es
   have e3 : S.Lx (.h p i1 j1) = some (k', es) := by simp only [St.Lx, e1, h1, h2]
   rw [e3]
   obtain ⟨g, old, ⟨g1, g2⟩, h⟩ := chk_iff.1 h
   simp only [Bool.and_eq_true] at g
   simp only [List.drop_zero] at g2
   subst g2
   refine ⟨⟨Nat.eq_of_beq_eq_true g.1.1.1, Nat.eq_of_beq_eq_true g.1.1.2, by omega, (fresh_iff g.1.2).1, by simpa [Nat.blt_eq] using g.2⟩, srcE_ok (fun news h => ?_) h⟩
   obtain ⟨n, rfl, g3, es', rfl, es0', rfl, h⟩ := h
   refine ⟨g3, hk _ ?_⟩
   have h := fN_iff.1 h
   have e4 : S.takeOut p i1 j1 = (S.killH p).new p (.own k0 (es0.set i1 (e.set j1 .no))) := by
    unfold St.takeOut
    simp only [e1, List.getD, h1, Option.getD_some]
   rw [e4]; exact h
  ·exact h.elim
 ·exact h.elim
def appE (tb : TypeId → Option TyI) (nm : Nat) (S : St) (dst : Option Tmp) (s x : Operand) (t t' : TypeId) (K : St → Prop) : Prop :=
 match tb t with
 | some { kind := .slice e, .. } =>
  (match tb e, tb t' with
  |some { size := sz, bytes := bt, zero := z, .. }, some i' => chk (i'.kind.seq && !z.isEmpty)
   (match S.ev s with
   | .one .nil => chk (fresh S nm) (srcE S sz (S.ev x) fun news => Pick (fun n : Nat => news.length = n) fun n =>
     Need ((2 * n + 1024) * bt ≤ 2 ^ 48 ∧ n ≤ 2 ^ 48) (fN nm fun nm => K ((S.new nm (.own sz news)).put dst (.one (.os (.v nm) sz 0 n)))))
   | .one (.os (.v p) k 0 len) =>
    (match S.L p with
    | some (.own k' es) => chk (Nat.beq k sz && Nat.beq k' k) (Pick (SlOf es 0 len) fun old =>
     (match eatB S nm p sz (S.ev x) with
     | none => srcE S sz (S.ev x) fun news => Pick (fun n : Nat => len + news.length = n) fun n =>
      Need ((2 * n + 1024) * bt ≤ 2 ^ 48 ∧ n ≤ 2 ^ 48) (Pick (fun es => old ++ news = es) fun es => K ((((S.kill p).new p (.own k es)).mov p).put dst (.one (.os (.v p) k 0 n))))
     | some (q, off', len', es') => Pick (SlOf es' off' len') fun news => Pick (fun n : Nat => len + news.length = n) fun n =>
      Need (0 < news.length ∧ (2 * n + 1024) * bt ≤ 2 ^ 48 ∧ n ≤ 2 ^ 48) (Pick (fun es => old ++ news = es) fun es => K (((((S.frz q).kill p).new p (.own k es)).mov p).put dst (.one (.os (.v p) k 0 n))))))
    | _ => False)
   | .one (.os (.h p i1 j1) k 0 len) => appHE nm S dst sz bt p i1 j1 k len (S.ev x) K
   | .one (.sb p o k n) =>
    (match S.L p with
    |some (.box cs) => (match cvDs ((cs.drop o).take (n * k)) with
     | some ds => chk ((Nat.beq k sz && Nat.beq ds.length (n * k)) && fresh S nm) (srcE S sz (S.ev x) fun news => Pick (fun m : Nat => news.length = m) fun m =>
      Need (0 < m ∧ (2 * (n + m) + 1024) * bt ≤ 2 ^ 48 ∧ n + m ≤ 2 ^ 48) (Pick (fun es => chunks k n ds ++ news = es) fun es => Pick (fun q => n + m = q) fun q => fN nm fun nm => K ((S.new nm (.own k es)).put dst (.one (.os (.v nm) k 0 q)))))
     | none => False)
    | _ => False)
   | _ => False)
  | _, _ => False)
 | _ => False
theorem appE_ok {nm : Nat} {dst : Option Tmp} {s x : Operand} {t t' : TypeId} {K K' : St → Prop} (hk : ∀ T, K T → K' T) (h : appE tb nm S dst s x t t' K) : appD tb nm S dst s x t t' K' := by
 unfold appE at h; unfold appD
 split at h
 ·rename_i e1; simp only [e1]
  split at h
  ·rename_i e2 e3; simp only [e2, e3]
   obtain ⟨h1, h⟩ := chk_iff.1 h
   simp only [Bool.and_eq_true, Bool.not_eq_true', List.isEmpty_eq_false_iff] at h1
   refine ⟨h1, ?_⟩
   split at h
   ·rename_i e4; simp only [e4]
    obtain ⟨h2, h⟩ := chk_iff.1 h
    exact ⟨fresh_iff h2, srcE_ok (fun es h => by obtain ⟨n, g1, g2⟩ := h; subst g1; exact ⟨g2.1, hk _ (fN_iff.1 g2.2)⟩) h⟩
   ·rename_i e4; simp only [e4]
    split at h
    ·rename_i e5; simp only [e5]
     obtain ⟨h2, old, ⟨h3, h4⟩, h⟩ := chk_iff.1 h
     simp only [Bool.and_eq_true] at h2
     simp only [List.drop_zero] at h4
     subst h4
     refine ⟨⟨Nat.eq_of_beq_eq_true h2.1, Nat.eq_of_beq_eq_true h2.2, by omega⟩, ?_⟩
     split at h
     ·exact .inl (srcE_ok (fun es h => by obtain ⟨n, g1, g2, es, g3, g4⟩ := h; subst g1; subst g3; exact ⟨g2, hk _ g4⟩) h)
     ·rename_i e6
      obtain ⟨news, ⟨g0, rfl⟩, n, rfl, g2, es2, rfl, g4⟩ := h
      exact .inr (eatB_ok e6 g0 ⟨g2, hk _ g4⟩)
    ·exact h.elim
   ·rename_i p i1 j1 k len e4; simp only [e4]
    exact appHE_ok hk h
   ·rename_i e4; simp only [e4]
    split at h
    ·rename_i e5; simp only [e5]
     split at h
     ·rename_i e6; simp only [e6]
      obtain ⟨h2, h⟩ := chk_iff.1 h
      simp only [Bool.and_eq_true] at h2
      exact ⟨⟨Nat.eq_of_beq_eq_true h2.1.1, Nat.eq_of_beq_eq_true h2.1.2, fresh_iff h2.2⟩, srcE_ok (fun es h => by obtain ⟨m, g1, g2, es, g3, q, g4, g5⟩ := h; subst g1; subst g3; subst g4; exact ⟨g2, hk _ (fN_iff.1 g5)⟩) h⟩
     ·exact h.elim
    ·exact h.elim
   ·exact h.elim
  ·exact h.elim
 ·exact h.elim

def idxV (p : Nat) : List Nm → Option Nat
 | [] => none
 | .v q :: ps => (match Nat.beq p q with | true => some 0 | false => (match idxV p ps with | some i => some (i + 1) | none => none))
 | .h _ _ _ :: ps => (match idxV p ps with | some i => some (i + 1) | none => none)
theorem idxV_eq {p : Nat} : ∀ ps : List Nm, idxV p ps = idxOf (.v p) ps
 | [] => rfl
 |.v q :: ps => by
  simp only [idxV, idxOf, idxV_eq ps]
  by_cases e : p = q
  ·subst e; simp
  ·have : Nat.beq p q = false := by cases h : Nat.beq p q with | false => rfl | true => exact absurd (Nat.eq_of_beq_eq_true h) e
   simp only [this, Nm.v.injEq, e, if_false]
   cases idxOf (.v p) ps <;> rfl
 |.h a b c :: ps => by
  simp only [idxV, idxOf, idxV_eq ps]
  rw [if_neg (by simp)]
  cases idxOf (.v p) ps <;> rfl
def hidV : List Nm → Nat → Option (Nat × Nat × Nat × Nat)
 | [], _ => none
 | .h p a b :: _, i => some (i, p, a, b)
 | .v _ :: ps, i => hidV ps (i + 1)
theorem hidV_some : ∀ {ps : List Nm} {i0 i p a b : Nat}, hidV ps i0 = some (i, p, a, b) → i0 ≤ i ∧ ps[i - i0]? = some (.h p a b)
 | .h p' a' b' :: ps, i0, i, p, a, b, h => by simp only [hidV, Option.some.injEq, Prod.mk.injEq] at h; obtain ⟨rfl, rfl, rfl, rfl⟩ := h; simp
 |.v q :: ps, i0, i, p, a, b, h => by
  simp only [hidV] at h
  obtain ⟨h1, h2⟩ := hidV_some h
  refine ⟨by omega, ?_⟩
  rw [show i - i0 = (i - (i0 + 1)) + 1 by omega]; simpa using h2
theorem hidV_none : ∀ {ps : List Nm} {i0 : Nat}, hidV ps i0 = none → ∀ p a b, (Nm.h p a b) ∉ ps
 | [], _, _, p, a, b => by simp
 | .h p' a' b' :: ps, i0, h, _, _, _ => by simp [hidV] at h
 | .v q :: ps, i0, h, p, a, b => by simp only [hidV] at h; simp [hidV_none h p a b]
def vis : List Nm → Bool | [] => true | .v _ :: r => vis r | .h _ _ _ :: _ => false
theorem vis_ok : ∀ {ps : List Nm}, vis ps = true → ∀ p a b, (Nm.h p a b) ∉ ps
 | [], _, p, a, b => by simp
 | .h _ _ _ :: _, h, _, _, _ => by simp [vis] at h
 | .v q :: ps, h, p, a, b => by simp only [vis] at h; simp [vis_ok h p a b]
def noTop (x : Nat) : List Nm → Bool | [] => true | .v q :: r => !Nat.beq x q && noTop x r | .h q _ _ :: r => !Nat.beq x q && noTop x r
theorem noTop_ok {x : Nat} : ∀ {ps : List Nm}, noTop x ps = true → ∀ n ∈ ps, n.top ≠ x
 | [], _, n, hn => by simp at hn
 |.v q :: ps, h, n, hn => by
  simp only [noTop, Bool.and_eq_true, Bool.not_eq_true'] at h
  rcases List.mem_cons.1 hn with rfl | hn
  ·intro e; simp only [Nm.top] at e; subst e; simp at h
  ·exact noTop_ok h.2 n hn
 |.h q a b :: ps, h, n, hn => by
  simp only [noTop, Bool.and_eq_true, Bool.not_eq_true'] at h
  rcases List.mem_cons.1 hn with rfl | hn
  ·intro e; simp only [Nm.top] at e; subst e; simp at h
  ·exact noTop_ok h.2 n hn
def goodN : List Nm → Bool
 | [] => true
 | .v x :: xs => noTop x xs && goodN xs
 | .h p _ _ :: xs => vis xs && noTop p xs && goodN xs
theorem goodN_nd : ∀ {ps : List Nm}, goodN ps = true → ps.Nodup
 | [], _ => by simp
 |.v x :: ps, h => by
  simp only [goodN, Bool.and_eq_true] at h
  exact List.nodup_cons.2 ⟨fun hm => noTop_ok h.1 _ hm rfl, goodN_nd h.2⟩
 |.h p a b :: ps, h => by
  simp only [goodN, Bool.and_eq_true] at h
  exact List.nodup_cons.2 ⟨vis_ok h.1.1 p a b, goodN_nd h.2⟩
theorem goodN_hov : ∀ {ps : List Nm}, goodN ps = true → ∀ p a b, (Nm.h p a b) ∈ ps → (Nm.v p) ∉ ps
 | [], _, p, a, b, h => by simp at h
 |.v x :: ps, h, p, a, b, hm => by
  simp only [goodN, Bool.and_eq_true] at h
  simp only [List.mem_cons, reduceCtorEq, false_or] at hm
  simp only [List.mem_cons, Nm.v.injEq, not_or]
  exact ⟨fun e => noTop_ok h.1 _ hm e, goodN_hov h.2 p a b hm⟩
 |.h q c d :: ps, h, p, a, b, hm => by
  simp only [goodN, Bool.and_eq_true] at h
  simp only [List.mem_cons, reduceCtorEq, false_or]
  rcases List.mem_cons.1 hm with e | hm
  ·simp only [Nm.h.injEq] at e; obtain ⟨rfl, rfl, rfl⟩ := e
   exact fun hm => noTop_ok h.1.2 _ hm rfl
  ·exact goodN_hov h.2 p a b hm
theorem goodN_one : ∀ {ps : List Nm}, goodN ps = true → ∀ (i j p a b q c d : Nat), ps[i]? = some (Nm.h p a b) → ps[j]? = some (Nm.h q c d) → i = j
 | [], _, i, j, p, a, b, q, c, d, h1, _ => by simp at h1
 |.v x :: ps, h, i, j, p, a, b, q, c, d, h1, h2 => by
  simp only [goodN, Bool.and_eq_true] at h
  cases i with
  | zero => simp at h1
  |succ i => cases j with
   | zero => simp at h2
   | succ j => rw [goodN_one h.2 i j p a b q c d (by simpa using h1) (by simpa using h2)]
 |.h x y z :: ps, h, i, j, p, a, b, q, c, d, h1, h2 => by
  simp only [goodN, Bool.and_eq_true] at h
  cases i with
  |zero => cases j with
   | zero => rfl
   | succ j => exact absurd (List.mem_of_getElem? (by simpa using h2)) (vis_ok h.1.1 q c d)
  | succ i => exact absurd (List.mem_of_getElem? (by simpa using h1)) (vis_ok h.1.1 p a b)
def mapE (ps : List Nm) (nm : Nm) (K : Option Nm → Prop) : Prop :=
 match nm with
 | .v p => (match idxV p ps with | some i => K (some (.v i)) | none => K none)
 |.h p a b => (match hidV ps 0 with
  |some (i, q, c, d) => (match Nat.beq p q && Nat.beq b d with
   | true => Need (a = c) (K (some (.v i)))
   | false => (match idxV p ps with | some i => K (some (.h i a b)) | none => K none))
  | none => (match idxV p ps with | some i => K (some (.h i a b)) | none => K none))
theorem mapE_ok {ps : List Nm} {nm : Nm} {K : Option Nm → Prop} (hg : goodN ps = true) (h : mapE ps nm K) : K (mapN ps nm) := by
 cases nm with
 | v p =>
  simp only [mapE] at h
  rw [idxV_eq] at h
  unfold mapN
  split at h
  ·rename_i e; simp only [e]; exact h
  ·rename_i e; simp only [e]; exact h
 | h p a b =>
  simp only [mapE] at h
  have vis : idxOf (.h p a b) ps = none → (match idxV p ps with | some i => K (some (.h i a b)) | none => K none) → K (mapN ps (.h p a b)) := fun e h => by
   rw [idxV_eq] at h
   unfold mapN
   simp only [e]
   split at h
   ·rename_i e; simp only [e]; exact h
   ·rename_i e; simp only [e]; exact h
  split at h
  ·rename_i i q c d e
   have e1 := (hidV_some e).2
   rw [Nat.sub_zero] at e1
   split at h
   ·rename_i e2
    simp only [Bool.and_eq_true] at e2
    have e3 := Nat.eq_of_beq_eq_true e2.1; have e4 := Nat.eq_of_beq_eq_true e2.2
    obtain ⟨e5, h⟩ := h
    subst e3; subst e4; subst e5
    unfold mapN
    simp only [idxOf_at (goodN_nd hg) e1]
    exact h
   ·rename_i e2
    refine vis ?_ h
    cases e3 : idxOf (.h p a b) ps with
    | none => rfl
    | some j =>
     have e4 := idxOf_get e3
     have := goodN_one hg _ _ _ _ _ _ _ _ e1 e4
     subst this
     rw [e1] at e4
     simp only [Option.some.injEq, Nm.h.injEq] at e4
     obtain ⟨rfl, rfl, rfl⟩ := e4
     simp at e2
  ·rename_i e
   refine vis ?_ h
   cases e3 : idxOf (.h p a b) ps with
   | none => rfl
   | some j => exact absurd (List.mem_of_getElem? (idxOf_get e3)) (hidV_none e p a b)
def inNm (x : Nm) : List Nm → Bool
 | [] => false
 | y :: ys => (match x, y with | .v p, .v q => Nat.beq p q | .h p _ b, .h q _ d => Nat.beq p q && Nat.beq b d | .h p _ _, .v q => Nat.beq p q | .v _, .h _ _ _ => false) || inNm x ys
def addNew (xs : List Nm) (x : Nm) : List Nm := match inNm x xs with | true => xs | false => xs ++ [x]
def dropH (all : List Nm) : List Nm → List Nm
 | [] => []
 | .v p :: r => .v p :: dropH all r
 | .h p a b :: r => (match idxV p all with | some _ => dropH all r | none => .h p a b :: dropH all r)
def uniq (xs : List Nm) : List Nm := (fun ys => dropH ys ys) (xs.foldl addNew [])
def boxNames (S : St) (p : Nat) : List Nm := match S.L p with
 | some (.box cs) => cs.foldr (fun c r => match c with | .os q _ _ _ => q :: r | .ptr q _ => .v q :: r | .ep q _ _ _ => q :: r | _ => r) []
 | _ => []
def cellNames (S : St) (ow lend : Bool) (c : CV) : List Nm := match c with
 | .ptr p _ => .v p :: boxNames S p
 | .ep p _ _ _ => (match lend with | true => [] | false => [p])
 | .os p _ _ _ => (match ow with | true => [p] | false => [])
 | _ => []
def psOf (S : St) (own : List Nat) : Nat → List SV → List Nm
 | _, [] => []
 | i, v :: vs =>
  let ow := own.any fun j => Nat.beq i j
  let le := own.any fun j => Nat.beq (1000 + i) j
  (match v with
  | .one c => cellNames S ow le c
  | .agg cs => cs.foldr (fun c r => cellNames S ow le c ++ r) []
  | .tup _ => []
  | .arr _ => []) ++ psOf S own (i + 1) vs
def fNms : List Nm → (List Nm → Prop) → Prop
 | [], K => K []
 | n :: ns, K => fNm n fun n => fNms ns fun ns => K (n :: ns)
theorem fNms_iff : ∀ {ns : List Nm} {K : List Nm → Prop}, fNms ns K ↔ K ns
 | [], _ => Iff.rfl
 | n :: ns, K => by simp only [fNms, fNm_iff, fNms_iff]

def borB (ps : List Nm) : Nm → Bool
 | .v p => (match hidV ps 0 with | some (_, q, _, _) => !Nat.beq p q | none => true)
 | .h _ _ _ => true
theorem borB_ok {ps : List Nm} (hg : goodN ps = true) : ∀ {nm : Nm}, borB ps nm = true → borOk ps nm
 |.v p, h => by
  intro a b hm
  simp only [borB] at h
  split at h
  ·rename_i i q c d e
   have e1 := (hidV_some e).2
   rw [Nat.sub_zero] at e1
   obtain ⟨j, hj⟩ := List.mem_iff_getElem?.1 hm
   have := goodN_one hg _ _ _ _ _ _ _ _ e1 hj
   subst this
   rw [e1] at hj
   simp only [Option.some.injEq, Nm.h.injEq] at hj
   obtain ⟨rfl, _⟩ := hj
   simp at h
  ·rename_i e; exact hidV_none e p a b hm
 | .h _ _ _, _ => trivial
def argCE (bor : Bool) (S : St) (ps : List Nm) (c : CV) (K : CV → Prop) : Prop :=
 match c with
 | .dv d => K (.dv d)
 | .nil => K .nil
 | .dp cs f => K (.dp cs f)
 | .ptr p o => (match idxV p ps with | some i => K (.ptr i o) | none => False)
 |.ep p k i f => mapE ps p fun q => (match q with
  | some q => K (.ep q k i f)
  | none => ownE S p fun k' es => chk (bor && Nat.beq k k' && borB ps p) (Need (i < es.length) (Pick (fun xs : List DV => xs.map some = (es.getD i []).map fzD) fun xs => K (.dp xs f))))
 |.os p k off len => mapE ps p fun q => (match q with
  | some q => K (.os q k off len)
  | none => ownE S p fun k' es => chk (bor && Nat.beq k k' && borB ps p) (Pick (SlF es off len) fun xs => K (.dv (.sl xs))))
 | .sb .. => False
 | .dead => K .dead
theorem argCE_ok {bor : Bool} {ps : List Nm} (hg : goodN ps = true) {c : CV} {K K' : CV → Prop} (hk : ∀ x, K x → K' x) (h : argCE bor S ps c K) : argC bor S ps c K' := by
 unfold argCE at h; unfold argC
 split at h
 ·exact hk _ h
 ·exact hk _ h
 ·exact hk _ h
 ·rw [idxV_eq] at h
  split at h
  ·rename_i e; simp only [e]; exact hk _ h
  ·exact h.elim
 ·have h := mapE_ok hg h
  split at h
  ·rename_i e; simp only [e]; exact hk _ h
  ·rename_i e0; simp only [e0]
   obtain ⟨k', es, e, h⟩ := ownE_ok h
   simp only [e]
   obtain ⟨h1, h0, xs, h3, h⟩ := chk_iff.1 h
   simp only [Bool.and_eq_true] at h1
   exact ⟨xs, ⟨h1.1.1, Nat.eq_of_beq_eq_true h1.1.2, h0, borB_ok hg h1.2, h3⟩, hk _ h⟩
 ·have h := mapE_ok hg h
  split at h
  ·rename_i e; simp only [e]; exact hk _ h
  ·rename_i e0; simp only [e0]
   obtain ⟨k', es, e, h⟩ := ownE_ok h
   simp only [e]
   obtain ⟨h1, xs, ⟨h2, h3⟩, h⟩ := chk_iff.1 h
   simp only [Bool.and_eq_true] at h1
   exact ⟨xs, ⟨h1.1.1, Nat.eq_of_beq_eq_true h1.1.2, h2, borB_ok hg h1.2, h3⟩, hk _ h⟩
 ·exact h.elim
 ·exact hk _ h
def argCsE (bor : Bool) (S : St) (ps : List Nm) : List CV → (List CV → Prop) → Prop
 | [], K => K []
 | c :: cs, K => argCE bor S ps c fun c' => argCsE bor S ps cs fun cs' => K (c' :: cs')
theorem argCsE_ok {bor : Bool} {ps : List Nm} (hg : goodN ps = true) : ∀ {cs : List CV} {K K' : List CV → Prop}, (∀ x, K x → K' x) → argCsE bor S ps cs K → argCs bor S ps cs K'
 | [], _, _, hk, h => hk _ h
 | c :: cs, K, K', hk, h => argCE_ok hg (fun _ h => argCsE_ok hg (fun _ h => hk _ h) h) h
def argSE (bor : Bool) (S : St) (ps : List Nm) (v : SV) (K : SV → Prop) : Prop :=
 match v with
 | .one c => argCE bor S ps c fun c' => K (.one c')
 | .agg cs => argCsE bor S ps cs fun cs' => K (.agg cs')
 | .arr ds => K (.arr ds)
 | .tup _ => False
theorem argSE_ok {bor : Bool} {ps : List Nm} (hg : goodN ps = true) {v : SV} {K K' : SV → Prop} (hk : ∀ x, K x → K' x) (h : argSE bor S ps v K) : argS bor S ps v K' := by
 unfold argSE at h; unfold argS
 split at h
 ·exact argCE_ok hg (fun _ h => hk _ h) h
 ·exact argCsE_ok hg (fun _ h => hk _ h) h
 ·exact hk _ h
 ·exact h.elim
def argSsE (bor : Bool) (S : St) (ps : List Nm) : List SV → (List SV → Prop) → Prop
 | [], K => K []
 | v :: vs, K => argSE bor S ps v fun v' => argSsE bor S ps vs fun vs' => K (v' :: vs')
theorem argSsE_ok {bor : Bool} {ps : List Nm} (hg : goodN ps = true) : ∀ {vs : List SV} {K K' : List SV → Prop}, (∀ x, K x → K' x) → argSsE bor S ps vs K → argSs bor S ps vs K'
 | [], _, _, hk, h => hk _ h
 | v :: vs, K, K', hk, h => argSE_ok hg (fun _ h => argSsE_ok hg (fun _ h => hk _ h) h) h
def rowsE (bor : Bool) (S : St) (ps0 : List Nm) : List Nm → (List Row → Prop) → Prop
 | [], K => K []
 | .v p :: ps, K =>
  (match S.L p with
  | some (.own k es) => rowsE bor S ps0 ps fun rs => K (.own k es :: rs)
  | some (.box cs) => argCsE bor S ps0 cs fun cs' => rowsE bor S ps0 ps fun rs => K (.box cs' :: rs)
  | none => False)
 | .h p a b :: ps, K => ownE S (.h p a b) fun k es => rowsE bor S ps0 ps fun rs => K (.own k es :: rs)
theorem rowsE_ok {bor : Bool} {ps0 : List Nm} (hg : goodN ps0 = true) : ∀ {ps : List Nm} {K K' : List Row → Prop}, (∀ x, K x → K' x) → rowsE bor S ps0 ps K → rowsD bor S ps0 ps K'
 | [], _, _, hk, h => hk _ h
 |.v p :: ps, K, K', hk, h => by
  unfold rowsE at h; unfold rowsD
  split at h
  ·rename_i e; simp only [e]; exact rowsE_ok hg (fun _ h => hk _ h) h
  ·rename_i e; simp only [e]; exact argCsE_ok hg (fun _ h => rowsE_ok hg (fun _ h => hk _ h) h) h
  ·exact h.elim
 |.h p a b :: ps, K, K', hk, h => by
  unfold rowsE at h; unfold rowsD
  obtain ⟨k, es, e, h⟩ := ownE_ok h
  simp only [e]; exact rowsE_ok hg (fun _ h => hk _ h) h
def borC (ps : List Nm) : CV → Bool | .os p _ _ _ => !(inNm p ps) | .ep p _ _ _ => !(inNm p ps) | _ => false
def borS' (ps : List Nm) : SV → Bool | .one c => borC ps c | .agg cs => cs.any (borC ps) | .tup _ => false | .arr _ => false
def freshN (S : St) (nm : Nat) : Nat → Bool
 | 0 => true
 | n + 1 => (match S.L (nm + n) with | none => true | some _ => false) && freshN S nm n
theorem freshN_ok {nm : Nat} : ∀ {n : Nat}, freshN S nm n = true → ∀ j, j < n → S.L (nm + j) = none
 | 0, _, j, hj => by omega
 |n + 1, h, j, hj => by
  simp only [freshN, Bool.and_eq_true] at h
  rcases Nat.lt_or_ge j n with h1 | h1
  ·exact freshN_ok h.2 j h1
  ·obtain rfl : j = n := by omega
   cases hL : S.L (nm + j) with
   | none => rfl
   | some r => rw [hL] at h; simp at h
def hkOf (S : St) : List Nm → List Nat
 | [] => []
 | .v p :: ps => (match S.L p with | some (.box _) => hkOf S ps | _ => p :: hkOf S ps)
 | .h _ _ _ :: ps => hkOf S ps
theorem hkOf_ok : ∀ {ps : List Nm} (p : Nat), (Nm.v p) ∈ ps → p ∈ hkOf S ps ∨ ∃ cs, S.L p = some (.box cs)
 |.v q :: ps, p, h => by
  simp only [List.mem_cons, Nm.v.injEq] at h
  simp only [hkOf]
  rcases h with rfl | h
  ·split
   ·rename_i cs e; exact .inr ⟨cs, e⟩
   ·exact .inl (by simp)
  ·split
   ·exact hkOf_ok p h
   ·exact (hkOf_ok p h).imp (fun h => List.mem_cons_of_mem _ h) id
 |.h a b c :: ps, p, h => by
  simp only [List.mem_cons, reduceCtorEq, false_or] at h
  exact hkOf_ok (ps := ps) p h
def hidE (S : St) (ps : List Nm) (mv : List Nat) (Lo : List Row) (K : Prop) : Prop :=
 match hidV ps 0 with
 | none => K
 |some (i, p, a, b) => chk (!(mv.any fun j => Nat.beq i j)) (match Lo[i]? with
  |some (.own k es') => (match S.L p with
   | some (.own k0 es0) => Pick (fun e => es0[a]? = some e) fun e => pickC k0 e b fun d =>
    (match d with
    | .ow k1 off len es => chk (Nat.beq k1 k) (Need (off + len ≤ es'.length ∧ Fz es' es' ∧ (es = [] → off = 0 ∧ len = 0)) K)
    | _ => False)
   | _ => False)
  | _ => False)
theorem hidE_ok {ps : List Nm} {mv : List Nat} {Lo : List Row} {K : Prop} (hg : goodN ps = true) (h : hidE S ps mv Lo K) : hidOk S ps mv Lo ∧ K := by
 unfold hidE at h
 split at h
 ·rename_i e
  exact ⟨fun i p a b hi => absurd (List.mem_of_getElem? hi) (hidV_none e p a b), h⟩
 ·rename_i i p a b e
  have e1 := (hidV_some e).2
  rw [Nat.sub_zero] at e1
  obtain ⟨g1, h⟩ := chk_iff.1 h
  split at h
  ·rename_i k es' g2
   split at h
   ·rename_i k0 es0 g3
    obtain ⟨e, g4, h⟩ := h
    obtain ⟨d, g5, h⟩ := pickC_ok h
    split at h
    ·rename_i k1 off len es
     obtain ⟨g6, g7, h9⟩ := chk_iff.1 h
     have := Nat.eq_of_beq_eq_true g6; subst this
     refine ⟨fun i' p' a' b' hi => ?_, h9⟩
     have := goodN_one hg _ _ _ _ _ _ _ _ e1 hi
     subst this
     rw [e1] at hi
     simp only [Option.some.injEq, Nm.h.injEq] at hi
     obtain ⟨rfl, rfl, rfl⟩ := hi
     refine ⟨fun hm => ?_, k1, es', k0, es0, e, off, len, es, g2, g3, g4, g5, g7.1, g7.2.1, g7.2.2⟩
     simp only [Bool.not_eq_true'] at g1
     have := List.any_eq_false.1 g1 i hm
     simp at this
    ·exact h.elim
   ·exact h.elim
  ·exact h.elim
def backE (ps : List Nm) (nm : Nat) : Nat → List Row → (Nat → Option Row) → ((Nat → Option Row) → Prop) → Prop
 | _, [], L, K => K L
 | i, r :: rs, L, K => fNm (backV ps nm i) fun q =>
  match q with
  |.v q => (match r with
   | .own k es => backE ps nm (i + 1) rs (upd L q (some (.own k es))) K
   | .box cs => fCs (cs.map (backC ps nm)) fun cs => backE ps nm (i + 1) rs (upd L q (some (.box cs))) K)
  |.h p a b => (match r, L p with
   | .own _ es', some (.own k0 es0) => Pick (fun e => es0[a]? = some e) fun e => pickC k0 e b fun d =>
    (match d with
    | .ow k off len _ => Pick (fun es0' => es0.set a (e.set b (.ow k off len es')) = es0') fun es0' => backE ps nm (i + 1) rs (upd L p (some (.own k0 es0'))) K
    | _ => False)
   | _, _ => False)
theorem backE_ok {ps : List Nm} {nm : Nat} : ∀ {rs : List Row} {i : Nat} {L : Nat → Option Row} {K : (Nat → Option Row) → Prop}, backE ps nm i rs L K → K (setRows ps nm i rs L)
 | [], _, _, _, h => h
 |r :: rs, i, L, K, h => by
  have h := fNm_iff.1 h
  rw [setRows]
  unfold setRow
  split at h
  ·rename_i q e
   rw [e]
   split at h
   ·exact backE_ok h
   ·exact backE_ok (fCs_iff.1 h)
  ·rename_i p a b e
   rw [e]
   split at h
   ·rename_i es' k0 es0 e1 _
    obtain ⟨e, g1, h⟩ := h
    obtain ⟨d, g2, h⟩ := pickC_ok h
    split at h
    ·rename_i k1 off len es
     obtain ⟨es0', rfl, h⟩ := h
     have := backE_ok h
     simp only [setH, e1, List.getD, g1, g2, Option.getD_some, reW]
     exact this
    ·exact h.elim
   ·exact h.elim
theorem mapS_id (v : SV) : mapS (fun c => killHAll [] (killAll [] c)) v = v := by
 have e : (fun c => killHAll [] (killAll [] c)) = id := by funext c; rfl
 cases v with
 | one c => rfl
 | agg cs => simp [mapS, e]
 | tup vs => simp [mapS, e]
 | arr ds => rfl
theorem mapR_id (r : Row) : mapR (fun c => killHAll [] (killAll [] c)) r = r := by
 have e : (fun c => killHAll [] (killAll [] c)) = id := by funext c; rfl
 cases r with
 | box cs => simp [mapR, e]
 | own k es => rfl
def afterE (S : St) (ps : List Nm) (nm : Nat) (hk mv : List Nat) (Lo : List Row) (K : St → Prop) : Prop :=
 fNs (movN ps mv) fun ms => fNs hk fun hk =>
  match hk, ms with
  | [], [] => backE ps nm 0 Lo S.L fun L => K ⟨S.T, L, S.mv⟩
  | hk, ms => backE ps nm 0 Lo (fun q => (S.L q).map (mapR fun c => killHAll hk (killAll ms c))) fun L => K ⟨fun t => mapS (fun c => killHAll hk (killAll ms c)) (S.T t), L, ms ++ S.mv⟩
theorem afterE_ok {ps : List Nm} {nm : Nat} {hk mv : List Nat} {Lo : List Row} {K : St → Prop} (h : afterE S ps nm hk mv Lo K) : K (S.after ps nm hk mv Lo) := by
 have h := fNs_iff.1 (fNs_iff.1 h)
 unfold St.after
 generalize movN ps mv = ms at *
 have g : backE ps nm 0 Lo (fun q => (S.L q).map (mapR fun c => killHAll hk (killAll ms c))) (fun L => K ⟨fun t => mapS (fun c => killHAll hk (killAll ms c)) (S.T t), L, ms ++ S.mv⟩) := by
  split at h
  ·have e1 : (fun t => mapS (fun c => killHAll [] (killAll [] c)) (S.T t)) = S.T := by funext t; exact mapS_id _
   have e2 : (fun q => (S.L q).map (mapR fun c => killHAll [] (killAll [] c))) = S.L := by
    funext q
    cases S.L q with
    | none => rfl
    | some r => exact congrArg some (mapR_id r)
   rw [e1, e2]
   exact h
  ·exact h
 exact backE_ok g
def callE (P : Program) (nm : Nat) (S : St) (dst : Option Tmp) (fv : SV) (args : List SV) (K : St → Prop) : Prop :=
 match fv with
 | .one (.dv (.sc (.func (.func f) u v))) => chk (u.isEmpty && v.isEmpty) (Hand fun own =>
  fNms (uniq (psOf S own 0 args)) (fun ps => (fun bor => chk (goodN ps && Nat.ble ps.length 1000 && Nat.ble 1000 nm) (argSsE bor S ps args fun args' => rowsE bor S ps ps fun Li => CallW P f args' Li bor fun mv res Lo =>
   chk (freshN S nm (Lo.length - ps.length) && Nat.ble Lo.length 100000) (hidE S ps mv Lo (afterE S ps nm (hkOf S ps) mv Lo fun S1 => putE S1 dst (mapS (backC ps nm) res) K)))) (args.any (borS' ps))))
 | _ => False
theorem callE_ok {nm : Nat} {dst : Option Tmp} {fv : SV} {args : List SV} {K K' : St → Prop} (hk : ∀ T, K T → K' T) (h : callE P nm S dst fv args K) : callD P nm S dst fv args K' := by
 unfold callE at h
 split at h
 ·rename_i f u v
  obtain ⟨h1, own, h'⟩ := chk_iff.1 h
  clear h
  simp only [Bool.and_eq_true, Array.isEmpty_iff] at h1
  obtain ⟨rfl, rfl⟩ := h1
  have h' := fNms_iff.1 h'
  simp only at h'
  generalize uniq (psOf S own 0 args) = ps at h'
  generalize args.any (borS' ps) = bor at h'
  obtain ⟨h2, h⟩ := chk_iff.1 h'
  simp only [Bool.and_eq_true] at h2
  have hg := h2.1.1
  refine ⟨ps, hkOf S ps, bor, f, rfl, ⟨⟨goodN_nd hg, goodN_hov hg, goodN_one hg, hkOf_ok, Nat.le_of_ble_eq_true h2.1.2⟩, Nat.le_of_ble_eq_true h2.2⟩, argSsE_ok hg (fun args' h => rowsE_ok hg (fun Li h => ?_) h) h⟩
  obtain ⟨mv, cl, Post, hc, hcl, h⟩ := h
  refine ⟨mv, cl, Post, hc, hcl, fun res Lo hp => ?_⟩
  obtain ⟨h3, h4⟩ := chk_iff.1 (h res Lo hp)
  simp only [Bool.and_eq_true] at h3
  obtain ⟨h5, h6⟩ := hidE_ok hg h4
  exact ⟨⟨freshN_ok h3.1, Nat.le_of_ble_eq_true h3.2, h5⟩, hk _ (putE_iff.1 (afterE_ok h6))⟩
 ·exact h.elim

def fD (d : DV) (K : DV → Prop) : Prop :=
 match d with | .sc v => K (.sc v) | .sl es => K (.sl es) | .ow k off len es => fN k fun k => fN off fun off => fN len fun len => K (.ow k off len es) | .no => K .no
theorem fD_iff {d : DV} {K : DV → Prop} : fD d K ↔ K d := by cases d <;> simp only [fD, fN_iff]
def fDs : List DV → (List DV → Prop) → Prop
 | [], K => K []
 | d :: ds, K => fD d fun d => fDs ds fun ds => K (d :: ds)
theorem fDs_iff : ∀ {ds : List DV} {K : List DV → Prop}, fDs ds K ↔ K ds
 | [], _ => Iff.rfl
 | d :: ds, K => by simp only [fDs, fD_iff, fDs_iff]
def repWs : Nat → List Nat → List Nat | 0, _ => [] | n + 1, ws => ws ++ repWs n ws
def isZl : Z → Bool | .zl => true | _ => false
def wideB (sz : Nat) (sl : Bool) : Bool := wideK sz && (sl || !(Nat.beq sz 9 || Nat.beq sz 16))
def opE (P : Program) (tb : TypeId → Option TyI) (nm : Nat) (S : St) (op : Op) (dst : Option Tmp) (K : St → Prop) : Prop :=
 match op with
 |.box t x => (match (S.ev x).cells? with
  |some cs => chk (fresh S nm) (match wideB cs.length (cs.any ownsC) with
   | false => fCs cs fun cs => fN nm fun nm => K ((S.new nm (.box cs)).put dst (.one (.ptr nm 0)))
   | true => fNs (wsOf tb 8 t) fun ws => moveE S nm none ws cs fun ds qs => chk (nodupB (somes qs)) (fN nm fun nm => fN cs.length fun k => K ((((S.gone qs).killH nm).new nm (.own k [ds])).put dst (.one (.ep (.v nm) k 0 0)))))
  | none => False)
 |.alloc t => (match tb t with
  |some { size := sz, zero := z, .. } => chk (!z.isEmpty && fresh S nm) (match wideB sz (z.any isZl) with
   | false => fCs (z.map Z.cv) fun cs => fN nm fun nm => K ((S.new nm (.box cs)).put dst (.one (.ptr nm 0)))
   | true => fNs (wsOf tb 8 t) fun ws => fDs (zW ws z) fun ds => fN nm fun nm => K ((S.new nm (.own sz [ds])).put dst (.one (.ep (.v nm) sz 0 0))))
  | none => False)
 | .store t x v =>
  (match tb t, S.ev x, (S.ev v).cells? with
  | some i, .one c, some cs => chk (Nat.beq cs.length i.size && cs.all cellOk) (storeE S c (wsOf tb 8 t) cs fun S' => K (S'.put dst (.one .dead)))
  | _, _, _ => False)
 | .buildSlice t len parts =>
  (match tb t with
  | some { kind := .slice e, .. } =>
   (match tb e with
   |some { size := sz, zero := z, .. } => chk (!z.isEmpty && fresh S nm && Nat.ble (len * sz) 16777216)
    (match fillC (fun j => some (j * sz, sz)) (List.replicate len (z.map Z.cv)).flatten (parts.toList.map fun p => (p.1, S.ev p.2)) with
    | some cs =>
     (fun frz => match cs.any ownsC with
      | false => frz
      |true => OwnQ fun own => (match own with
       | false => frz
       | true => fNs (repWs len (wsOf tb 8 e)) fun ws => moveE S nm none ws cs fun ds qs => chk (nodupB (somes qs)) (fN nm fun nm => Pick (fun es => chunks sz len ds = es) fun es => K ((((S.gone qs).killH nm).new nm (.own sz es)).put dst (.one (.os (.v nm) sz 0 len))))))
     (deepE [] S cs fun S' ds => fN nm fun nm => Pick (fun es => chunks sz len ds = es) fun es => K ((S'.new nm (.own sz es)).put dst (.one (.os (.v nm) sz 0 len))))
    | none => False)
   | none => False)
  | _ => False)
 | .makeSlice t l c =>
  (match tb t with
  | some { kind := .slice e, .. } =>
   (match tb e with
   | some { size := sz, bytes := bt, zero := z, .. } => mapInt S l fun _ l => mapInt S c fun _ c => chk (!z.isEmpty && fresh S nm) (Need (0 ≤ l ∧ l ≤ c ∧ c ≤ 2 ^ 40 ∧ bt * c ≤ 2 ^ 48)
     (fN nm fun nm => Pick (fun m : Nat => l = (m : Int)) fun m => Pick (fun es => List.replicate m (zerosD z) = es) fun es => K ((S.new nm (.own sz es)).put dst (.one (.os (.v nm) sz 0 m)))))
   | none => False)
  | _ => False)
 | .call c =>
  (match c.callee with
  | .value fo => callE P nm S dst (S.ev fo) (c.args.toList.map S.ev) K
  | .builtin .append => (match c.args.toList, c.argTypes.toList with | [s, x], [t, t'] => appE tb nm S dst s x t t' K | _, _ => False)
  | .builtin .len => valE tb S op fun v => putE S dst v K
  | .builtin .max => valE tb S op fun v => putE S dst v K
  | .builtin .min => valE tb S op fun v => putE S dst v K
  | _ => False)
 | .convert src dstT x =>
  (match tb src, tb dstT with
  | some { kind := .string, .. }, some { kind := .slice e, .. } =>
   (match S.ev x with
   |.one (.dv (.sc (.string s))) => (match tb e with
    | some { kind := .int .u8, .. } => chk (fresh S nm) (fN nm fun nm => K ((S.new nm (.own 1 (s.data.toList.map fun b => [.sc (.int .u8 b.toNat)]))).put dst (.one (.os (.v nm) 1 0 s.size))))
    | _ => False)
   | _ => False)
  | some _, some _ => valE tb S op fun v => putE S dst v K
  | _, _ => False)
 | op => chk (isV tb op) (valE tb S op fun v => putE S dst v K)

theorem frzB_ok {nm sz len : Nat} {dst : Option Tmp} {cs : List CV} {K K' : St → Prop} (hk : ∀ T, K T → K' T)
  (h : deepE [] S cs fun S' ds => fN nm fun nm => Pick (fun es => chunks sz len ds = es) fun es => K ((S'.new nm (.own sz es)).put dst (.one (.os (.v nm) sz 0 len)))) :
  deepCells S cs fun S' ds => K' ((S'.new nm (.own sz (chunks sz len ds))).put dst (.one (.os (.v nm) sz 0 len))) :=
 deepE_ok' (fun T ds h => by obtain ⟨es, g1, g2⟩ := fN_iff.1 h; subst g1; exact hk _ g2) h
theorem opE_ok {nm : Nat} {op : Op} {dst : Option Tmp} {K K' : St → Prop} (hk : ∀ T, K T → K' T) (h : opE P tb nm S op dst K) : opD P tb nm S op dst K' := by
 have val : ∀ {op : Op}, isV tb op = true → valE tb S op (fun v => putE S dst v K) → opD P tb nm S op dst K' := fun hv h => (opD_valX hv).2 (valE_ok (fun v h => hk _ (putE_iff.1 h)) h)
 cases op with
 | box t x =>
  simp only [opE] at h; simp only [opD, memD]
  split at h
  ·rename_i e; simp only [e]
   obtain ⟨h1, h2⟩ := chk_iff.1 h
   refine ⟨fresh_iff h1, ?_⟩
   split at h2
   ·exact .inl (hk _ (fN_iff.1 (fCs_iff.1 h2)))
   ·refine .inr ⟨_, moveE_ok (fun ds qs h => ?_) (fNs_iff.1 h2)⟩
    obtain ⟨h3, h4⟩ := chk_iff.1 h
    exact ⟨ndup_ok h3, hk _ (fN_iff.1 (fN_iff.1 h4))⟩
  ·exact h.elim
 | alloc t =>
  simp only [opE] at h; simp only [opD, memD]
  split at h
  ·rename_i e; simp only [e]
   obtain ⟨h1, h2⟩ := chk_iff.1 h
   simp only [Bool.and_eq_true, Bool.not_eq_true', List.isEmpty_eq_false_iff] at h1
   refine ⟨⟨h1.1, fresh_iff h1.2⟩, ?_⟩
   split at h2
   ·exact .inl (hk _ (fN_iff.1 (fCs_iff.1 h2)))
   ·exact .inr ⟨_, hk _ (fN_iff.1 (fDs_iff.1 (fNs_iff.1 h2)))⟩
  ·exact h.elim
 | store t x v =>
  simp only [opE] at h; simp only [opD, memD]
  split at h
  ·rename_i e1 e2 e3; simp only [e1, e2, e3]
   obtain ⟨h1, h2⟩ := chk_iff.1 h
   simp only [Bool.and_eq_true] at h1
   exact ⟨⟨Nat.eq_of_beq_eq_true h1.1, h1.2⟩, storeE_ok (fun T h => hk _ h) h2⟩
  ·exact h.elim
 | buildSlice t len parts =>
  simp only [opE] at h; simp only [opD, memD]
  split at h
  ·rename_i e1; simp only [e1]
   split at h
   ·rename_i e2; simp only [e2]
    obtain ⟨h1, h⟩ := chk_iff.1 h
    simp only [Bool.and_eq_true, Bool.not_eq_true', List.isEmpty_eq_false_iff] at h1
    obtain ⟨⟨h1, h2⟩, h3⟩ := h1
    refine ⟨⟨h1, (fresh_iff h2).1, (fresh_iff h2).2, Nat.le_of_ble_eq_true h3⟩, ?_⟩
    split at h
    ·rename_i cs e3; simp only [e3]
     split at h
     ·exact .inl (frzB_ok hk h)
     ·obtain ⟨own, h⟩ := h
      cases own with
      | false => exact .inl (frzB_ok hk h)
      | true =>
       refine .inr ⟨_, moveE_ok (fun ds qs h => ?_) (fNs_iff.1 h)⟩
       obtain ⟨h3, h4⟩ := chk_iff.1 h
       obtain ⟨es, g1, g2⟩ := fN_iff.1 h4
       subst g1
       exact ⟨ndup_ok h3, hk _ g2⟩
    ·exact h.elim
   ·exact h.elim
  ·exact h.elim
 | makeSlice t l c =>
  simp only [opE] at h; simp only [opD, memD]
  split at h
  ·rename_i e1; simp only [e1]
   split at h
   ·rename_i e2; simp only [e2]
    refine mapInt_mono (fun _ l h => mapInt_mono (fun _ c h => ?_) h) h
    obtain ⟨h1, h⟩ := chk_iff.1 h
    simp only [Bool.and_eq_true, Bool.not_eq_true', List.isEmpty_eq_false_iff] at h1
    exact ⟨⟨h1.1, (fresh_iff h1.2).1, (fresh_iff h1.2).2, h.1⟩, by obtain ⟨m, g1, es, g2, g3⟩ := fN_iff.1 h.2; subst g1; subst g2; exact hk _ (by simpa using g3)⟩
   ·exact h.elim
  ·exact h.elim
 | call c =>
  simp only [opE] at h
  split at h
  ·rename_i e; simp only [opD, e]; exact callE_ok hk h
  ·rename_i e
   split at h
   ·rename_i e1 e2
    simp only [opD, e, memD, e1, e2]
    exact appE_ok hk h
   ·exact h.elim
  ·rename_i e; exact val (by simp [isV, e]) h
  ·rename_i e; exact val (by simp [isV, e]) h
  ·rename_i e; exact val (by simp [isV, e]) h
  ·exact h.elim
 | convert s t x =>
  simp only [opE] at h
  split at h
  ·rename_i e1 e2
   split at h
   ·rename_i e3
    split at h
    ·rename_i e4
     simp only [opD, memD, e1, e2, e3, e4]
     obtain ⟨h1, h2⟩ := chk_iff.1 h
     exact ⟨fresh_iff h1, hk _ (fN_iff.1 h2)⟩
    ·exact h.elim
   ·exact h.elim
  ·rename_i i j hne e1 e2
   refine val ?_ h
   simp only [isV, e1, e2]
  ·exact h.elim
 | _ =>
  unfold opE at h
  exact val (chk_iff.1 h).1 (chk_iff.1 h).2
end
end Go.Proofs.Ytpdjehnlejjfmaa.D
/- The steps of a run, in the form that is gone through by reduction: code. -/
namespace Go.Proofs.Ytpdjehnlejjfmaa.D
open Go.RowKit
set_option linter.unusedVariables false

structure LeX (S S' : St) : Prop where
 le : Le S S'
inductive SeqJ (X : (St → Prop) → Prop) (R : St → Prop) : Prop
 | mk (R' : St → Prop) (x : X R') (r : ∀ S', R' S' → ∃ S1, Le S' S1 ∧ R S1)
theorem SeqJ.thru {X : (St → Prop) → Prop} {R : St → Prop} (h : X R) : SeqJ X R := ⟨R, h, fun S' h => ⟨S', Le.refl _, h⟩⟩
theorem SeqJ.join {X : (St → Prop) → Prop} {R : St → Prop} {σ : Type} (st : σ → St) (J : σ → Prop) (x : X fun S' => Pick J fun s => LeX S' (st s)) (r : ∀ s, J s → R (st s)) : SeqJ X R :=
 ⟨_, x, fun S' ⟨s, h1, h2⟩ => ⟨st s, h2.le, r s h1⟩⟩
inductive LoopE (B : St → (Exit → St → Prop) → Prop) (S : St) (Q : Exit → St → Prop) : Prop
 |mk {σ : Type} (st : σ → St) (J : σ → Prop) (μ : σ → Nat) (s0 : σ) (h0 : J s0) (hle : LeX S (st s0))
  (round : ∀ s, J s → B (st s) (exitK (fun S'' => Pick (fun s' => J s' ∧ μ s' < μ s) fun s' => LeX S'' (st s')) Q))

def St.know (S : St) (c : Operand) (b : Bool) : St := match c with | .tmp t => S.put (some t) (vB b) | _ => S
theorem know_eq {S : St} {c : Operand} {b : Bool} (h : S.ev c = .one (.dv (.sc (.bool b)))) : S.know c b = S := by
 cases c with
 | tmp t =>
  obtain ⟨T, L, m⟩ := S
  simp only [St.know, St.put, St.mk.injEq, and_true]
  funext u
  by_cases e : u = t
  ·subst e; simp only [upd_same]; exact h.symm
  ·rw [upd_ne _ _ _ _ e]
 | _ => rfl

section
variable {P : Program} {tb : TypeId → Option TyI} {S : St}

def stepE (P : Program) (tb : TypeId → Option TyI) (base : Nat) (ops : List Oper) (i : Nat) (o : Oper) (S : St) (K : St → Prop) : Prop :=
 match o.guard with
 | none => opE P tb (base + 16 * i) S o.op o.dst K
 | some (j, want) =>
  match (ops[j]?).bind (·.dst) with
  |some t => (match S.T t with
   | .one (.dv (.sc (.bool b))) =>
    (match want with
    | true => br b (opE P tb (base + 16 * i) (S.know (.tmp t) true) o.op o.dst K) (K ((S.know (.tmp t) false).put o.dst (.tup [])))
    | false => br b (K ((S.know (.tmp t) true).put o.dst (.tup []))) (opE P tb (base + 16 * i) (S.know (.tmp t) false) o.op o.dst K))
   | .tup [] => K (S.put o.dst (.tup []))
   | _ => False)
  | none => False
theorem stepE_ok {base : Nat} {ops : List Oper} {i : Nat} {o : Oper} {K : St → Prop} (h : stepE P tb base ops i o S K) :
  (o.guard = none ∧ opE P tb (base + 16 * i) S o.op o.dst K) ∨ (∃ j want t b, o.guard = some (j, want) ∧ (ops[j]?).bind (·.dst) = some t ∧ S.T t = .one (.dv (.sc (.bool b))) ∧
   (b = want → opE P tb (base + 16 * i) S o.op o.dst K) ∧ (b ≠ want → K (S.put o.dst (.tup [])))) ∨ ∃ j want t, o.guard = some (j, want) ∧ (ops[j]?).bind (·.dst) = some t ∧ S.T t = .tup [] ∧ K (S.put o.dst (.tup [])) := by
 unfold stepE at h
 split at h
 ·rename_i e; exact .inl ⟨e, h⟩
 ·rename_i j want e
  split at h
  ·rename_i t ht
   split at h
   ·rename_i b hb
    refine .inr (.inl ⟨j, want, t, b, e, ht, hb, ?_⟩)
    split at h
    ·obtain ⟨h1, h2⟩ := br_iff.1 h
     refine ⟨fun e => ?_, fun e => ?_⟩
     ·subst e; have := h1 rfl; rwa [know_eq (c := .tmp t) hb] at this
     ·simp at e; subst e; have := h2 rfl; rwa [know_eq (c := .tmp t) hb] at this
    ·obtain ⟨h1, h2⟩ := br_iff.1 h
     refine ⟨fun e => ?_, fun e => ?_⟩
     ·subst e; have := h2 rfl; rwa [know_eq (c := .tmp t) hb] at this
     ·simp at e; subst e; have := h1 rfl; rwa [know_eq (c := .tmp t) hb] at this
   ·rename_i hb; exact .inr (.inr ⟨j, want, t, e, ht, hb, h⟩)
   ·exact h.elim
  ·exact h.elim
def opsE (P : Program) (tb : TypeId → Option TyI) (base : Nat) (ops : List Oper) : Nat → List Oper → St → (St → Prop) → Prop
 | _, [], S, K => K S
 | i, o :: rest, S, K => stepE P tb base ops i o S fun S' => opsE P tb base ops (i + 1) rest S' K
theorem opsE_ok {base : Nat} {ops : List Oper} : ∀ {rest : List Oper} {i : Nat} {S : St} {K K' : St → Prop}, (∀ T, K T → K' T) → opsE P tb base ops i rest S K → opsD P tb base ops i rest S K'
 | [], i, S, K, K', hk, h => hk _ h
 |o :: rest, i, S, K, K', hk, h => by
  have h : stepE P tb base ops i o S fun S' => opsE P tb base ops (i + 1) rest S' K := h
  simp only [opsD]
  rcases stepE_ok h with ⟨e, h⟩ | ⟨j, want, t, b, e, ht, hb, h1, h2⟩ | ⟨j, want, t, e, ht, hb, h1⟩
  ·simp only [e]; exact opE_ok (fun T h => opsE_ok hk h) h
  ·simp only [e, ht, hb]
   exact ⟨fun e => opE_ok (fun T h => opsE_ok hk h) (h1 (by simpa using e)), fun e => opsE_ok hk (h2 (by simpa using e))⟩
  ·simp only [e, ht, hb]
   exact opsE_ok hk h1

def againE (tb : TypeId → Option TyI) (ops : List Oper) (o : Oper) (S : St) (K : SV → Prop) : Prop :=
 match o.guard with
 | none => valE tb S o.op K
 | some (j, want) =>
  match (ops[j]?).bind (·.dst) with
  |some t => (match S.T t with
   | .one (.dv (.sc (.bool b))) => (match want with | true => br b (valE tb S o.op K) (K (.tup [])) | false => br b (K (.tup [])) (valE tb S o.op K))
   | .tup [] => K (.tup [])
   | _ => False)
  | none => False
def rechs (tb : TypeId → Option TyI) (ops : List Oper) (S : St) : List Nat → Prop
 | [] => Done True
 | i :: re =>
  match ops[i]? with
  | some o => (match o.dst with | some t => againE tb ops o S fun v => fS v fun v => fS (S.T t) fun u => Need (v = u) (rechs tb ops S re) | none => False)
  | none => False
def rechE (tb : TypeId → Option TyI) (ops : List Oper) (S : St) (re : List Nat) (X : Prop) : Prop :=
 match re with
 | [] => X
 | i :: re => Need (rechs tb ops S (i :: re)) X
theorem againE_ok {ops : Array Oper} {o : Oper} {K K' : SV → Prop} (hk : ∀ v, K v → K' v) (h : againE tb ops.toList o S K) : stepV tb ops o S K' := by
 unfold againE at h; unfold stepV
 split at h
 ·rename_i e; simp only [e]; exact valE_ok hk h
 ·rename_i j want e; simp only [e]
  split at h
  ·rename_i t ht
   have ht' : (ops[j]?).bind (·.dst) = some t := by simpa using ht
   split at h
   ·rename_i b hb
    have : guardOf ops S j want = some b := by simp [guardOf, ht', hb]
    simp only [this]
    split at h
    ·obtain ⟨h1, h2⟩ := br_iff.1 h
     exact ⟨fun e => valE_ok hk (h1 e), fun e => hk _ (h2 (by simpa using e))⟩
    ·obtain ⟨h1, h2⟩ := br_iff.1 h
     exact ⟨fun e => valE_ok hk (h2 e), fun e => hk _ (h1 (by simpa using e))⟩
   ·rename_i hb
    have : guardOf ops S j want = some !want := by simp [guardOf, ht', hb]
    simp only [this]
    exact ⟨fun e => by simp at e, fun _ => hk _ h⟩
   ·exact h.elim
  ·exact h.elim
theorem rechs_ok {ops : Array Oper} : ∀ {re : List Nat}, rechs tb ops.toList S re → ∀ i ∈ re, recheck tb ops i S
 | [], h => by simp
 |i :: re, h => by
  unfold rechs at h
  split at h
  ·rename_i o ho
   split at h
   ·rename_i t ht
    have h1 := againE_ok (K' := fun v => v = S.T t ∧ (∀ i ∈ re, recheck tb ops i S)) (fun v h => by have h := fS_iff.1 (fS_iff.1 h); exact ⟨h.1, rechs_ok h.2⟩) h
    have h2 : recheck tb ops i S := ⟨o, t, by simpa using ho, ht, stepV_mono (fun v h => h.1) h1⟩
    have h3 := stepV_const (stepV_mono (fun v h => h.2) h1)
    exact fun x hx => by rcases List.mem_cons.1 hx with rfl | hx; exact h2; exact h3 x hx
   ·exact h.elim
  ·exact h.elim
theorem rechE_ok {ops : Array Oper} {re : List Nat} {X : Prop} (h : rechE tb ops.toList S re X) : (∀ i ∈ re, recheck tb ops i S) ∧ X := by
 unfold rechE at h
 split at h
 ·exact ⟨by simp, h⟩
 ·exact ⟨rechs_ok h.1, h.2⟩
def planE (P : Program) (tb : TypeId → Option TyI) (base : Nat) (ops : List Oper) : PS → St → (St → Prop) → Prop
 | .done, S, K => K S
 | .v i rest, S, K => (match ops[i]? with | some o => stepE P tb base ops i o S fun S' => planE P tb base ops rest S' K | none => False)
 | .x i re rest, S, K => (match ops[i]? with | some o => stepE P tb base ops i o S fun S' => rechE tb ops S' re (planE P tb base ops rest S' K) | none => False)
 | .or a b, S, K => Need (planE P tb base ops a S K) (planE P tb base ops b S K)
theorem stepE_D {base : Nat} {ops : Array Oper} {i : Nat} {o : Oper} {K K' : St → Prop} (ho : ops.toList[i]? = some o) (hk : ∀ T, K T → K' T) (h : stepE P tb base ops.toList i o S K) : stepD P tb base ops i S K' := by
 have ho' : ops[i]? = some o := by simpa using ho
 simp only [stepD, ho']
 rcases stepE_ok h with ⟨e, h⟩ | ⟨j, want, t, b, e, ht, hb, h1, h2⟩ | ⟨j, want, t, e, ht, hb, h1⟩
 ·simp only [e]; exact opE_ok hk h
 ·have ht' : (ops[j]?).bind (·.dst) = some t := by simpa using ht
  have : guardOf ops S j want = some b := by simp [guardOf, ht', hb]
  simp only [e, this]
  exact ⟨fun e => opE_ok hk (h1 e), fun e => hk _ (h2 e)⟩
 ·have ht' : (ops[j]?).bind (·.dst) = some t := by simpa using ht
  have : guardOf ops S j want = some !want := by simp [guardOf, ht', hb]
  simp only [e, this]
  exact ⟨fun e => by simp at e, fun _ => hk _ h1⟩
theorem planE_ok {base : Nat} {ops : Array Oper} : ∀ (plan : PS) {S : St} {K K' : St → Prop}, (∀ T, K T → K' T) → planE P tb base ops.toList plan S K → planD P tb base ops plan S K'
 | .done, S, K, K', hk, h => hk _ h
 |.v i rest, S, K, K', hk, h => by
  simp only [planE] at h; simp only [planD]
  split at h
  ·rename_i ho; exact stepE_D ho (fun T h => planE_ok rest hk h) h
  ·exact h.elim
 |.x i re rest, S, K, K', hk, h => by
  simp only [planE] at h; simp only [planD]
  split at h
  ·rename_i ho; exact stepE_D ho (fun T h => ⟨(rechE_ok h).1, planE_ok rest hk (rechE_ok h).2⟩) h
  ·exact h.elim
 | .or a b, S, K, K', hk, h => ⟨planE_ok a hk h.1, planE_ok b hk h.2⟩

def PS.ways : PS → Bool
 | .done => false
 | .v _ r => r.ways
 | .x _ _ r => r.ways
 | .or _ _ => true

def wpE (P : Program) (tb : TypeId → Option TyI) (pl : Nat → Option PS) : Code → St → (Exit → St → Prop) → Prop
 | .skip, S, Q => Q .normal S
 | .seq x y, S, Q =>
  (match x with
  | .cond _ _ _ => SeqJ (fun K => wpE P tb pl x S (exitK K Q)) fun S' => wpE P tb pl y S' Q
  | .block _ _ => SeqJ (fun K => wpE P tb pl x S (exitK K Q)) fun S' => wpE P tb pl y S' Q
  | .seq _ (.cond _ _ _) => SeqJ (fun K => wpE P tb pl x S (exitK K Q)) fun S' => wpE P tb pl y S' Q
  |.region id _ true => (match pl id with
   |some plan => (match plan.ways with
    | true => SeqJ (fun K => wpE P tb pl x S (exitK K Q)) fun S' => wpE P tb pl y S' Q
    | false => wpE P tb pl x S (exitK (fun S' => wpE P tb pl y S' Q) Q))
   | none => False)
  |.region id _ false => (match pl id with
   | some _ => SeqJ (fun K => wpE P tb pl x S (exitK K Q)) fun S' => wpE P tb pl y S' Q
   | none => wpE P tb pl x S (exitK (fun S' => wpE P tb pl y S' Q) Q))
  |.seq _ (.region id _ false) => (match pl id with
   | some _ => SeqJ (fun K => wpE P tb pl x S (exitK K Q)) fun S' => wpE P tb pl y S' Q
   | none => wpE P tb pl x S (exitK (fun S' => wpE P tb pl y S' Q) Q))
  | _ => wpE P tb pl x S (exitK (fun S' => wpE P tb pl y S' Q) Q))
 | .cond c x y, S, Q =>
  (match S.ev c with
  | .one (.dv (.sc (.bool b))) => br b (wpE P tb pl x (S.know c true) Q) (wpE P tb pl y (S.know c false) Q)
  | _ => False)
 | .block id c, S, Q => wpE P tb pl c S (blockK id Q)
 | .exit id, S, Q => Q (.exit id) S
 | .ret, S, Q => Q .ret S
 | .region id ops false, S, Q => opsE P tb (4096 * (id + 1)) ops.toList 0 ops.toList S (Q .normal)
 | .region id ops true, S, Q => (match pl id with | some plan => planE P tb (4096 * (id + 1)) ops.toList plan S (Q .normal) | none => False)
 | .loop c, S, Q => LoopE (wpE P tb pl c) S Q
 | _, _, _ => False
def plansOk (tb : TypeId → Option TyI) (pl : Nat → Option PS) : Code → Bool
 | .seq x y => plansOk tb pl x && plansOk tb pl y
 | .cond _ x y => plansOk tb pl x && plansOk tb pl y
 | .block _ c => plansOk tb pl c
 | .loop c => plansOk tb pl c
 | .region id ops true => (match pl id with | some plan => planOk tb ops true ops.size [] (Array.replicate ops.size false) plan | none => true)
 | _ => true

theorem exitK_mono {K K' : St → Prop} {Q Q' : Exit → St → Prop} (hk : ∀ S, K S → K' S) (hq : ∀ e S, Q e S → Q' e S) : ∀ e S, exitK K Q e S → exitK K' Q' e S := by
 intro e S h; cases e <;> first | exact hk _ h | exact hq _ _ h
theorem blockK_mono {i : Nat} {Q Q' : Exit → St → Prop} (hq : ∀ e S, Q e S → Q' e S) : ∀ e S, blockK i Q e S → blockK i Q' e S := by
  intro e S h; cases e <;> first
    | exact hq _ _ h
    | (simp only [blockK] at h ⊢
       split at h
       · rename_i e; rw [if_pos e]; exact hq _ _ h
       · rename_i e; rw [if_neg e]; exact hq _ _ h)

theorem wpE_ok {pl : Nat → Option PS} : ∀ (c : Code) (S : St) (Q Q' : Exit → St → Prop), plansOk tb pl c = true → (∀ e S, Q e S → Q' e S) → wpE P tb pl c S Q → wpD P tb c S Q'
 | .skip, S, Q, Q', _, hq, h => hq _ _ h
 |.seq x y, S, Q, Q', hp, hq, h => by
  simp only [plansOk, Bool.and_eq_true] at hp
  have thru : wpE P tb pl x S (exitK (fun S' => wpE P tb pl y S' Q) Q) → wpD P tb (.seq x y) S Q' := fun h =>
   ⟨fun S' => wpE P tb pl y S' Q, wpE_ok x S _ _ hp.1 (exitK_mono (fun _ h => h) hq) h, fun S' h => ⟨S', Le.refl _, wpE_ok y S' _ _ hp.2 hq h⟩⟩
  have join : SeqJ (fun K => wpE P tb pl x S (exitK K Q)) (fun S' => wpE P tb pl y S' Q) → wpD P tb (.seq x y) S Q' := fun ⟨R', h1, h2⟩ =>
   ⟨R', wpE_ok x S _ _ hp.1 (exitK_mono (fun _ h => h) hq) h1, fun S' h => (h2 S' h).elim fun S1 g => ⟨S1, g.1, wpE_ok y S1 _ _ hp.2 hq g.2⟩⟩
  unfold wpE at h
  split at h
  ·exact join h
  ·exact join h
  ·exact join h
  ·split at h
   ·split at h
    ·exact join h
    ·exact thru h
   ·exact h.elim
  ·split at h
   ·exact join h
   ·exact thru h
  ·split at h
   ·exact join h
   ·exact thru h
  ·exact thru h
 |.cond c x y, S, Q, Q', hp, hq, h => by
  simp only [plansOk, Bool.and_eq_true] at hp
  simp only [wpE] at h; simp only [wpD]
  split at h
  ·rename_i b hb
   obtain ⟨h1, h2⟩ := br_iff.1 h
   simp only [hb]
   refine ⟨fun e => ?_, fun e => ?_⟩
   ·subst e; have := h1 rfl; rw [know_eq hb] at this; exact wpE_ok x S _ _ hp.1 hq this
   ·subst e; have := h2 rfl; rw [know_eq hb] at this; exact wpE_ok y S _ _ hp.2 hq this
  ·exact h.elim
 | .block id c, S, Q, Q', hp, hq, h => wpE_ok c S _ _ hp (blockK_mono hq) h
 | .exit id, S, Q, Q', _, hq, h => hq _ _ h
 | .ret, S, Q, Q', _, hq, h => hq _ _ h
 | .region id ops false, S, Q, Q', _, hq, h => opsE_ok (hq _) h
 |.region id ops true, S, Q, Q', hp, hq, h => by
  simp only [wpE] at h
  simp only [plansOk] at hp
  split at h
  ·rename_i plan e
   rw [e] at hp
   exact .inl ⟨plan, hp, planE_ok plan (hq _) h⟩
  ·exact h.elim
 |.loop c, S, Q, Q', hp, hq, h => by
  obtain ⟨st, J, μ, s0, h0, hle, round⟩ := h
  refine ⟨fun n S' => ∃ s, J s ∧ μ s = n ∧ S' = st s, ⟨_, _, hle.le, s0, h0, rfl, rfl⟩, ?_⟩
  rintro m S' ⟨s, h1, rfl, rfl⟩
  refine wpE_ok c _ _ _ hp (exitK_mono ?_ hq) (round s h1)
  rintro T ⟨s', ⟨g1, g2⟩, g3⟩
  exact ⟨_, _, g2, g3.le, s', g1, rfl, rfl⟩
 | .rangeFunc .., _, _, _, _, _, h => h.elim
 | .scope _, _, _, _, _, _, h => h.elim
 | .label _, _, _, _, _, _, h => h.elim
 | .goto _, _, _, _, _, _, h => h.elim
 | .refuse _, _, _, _, _, _, h => h.elim
end
end Go.Proofs.Ytpdjehnlejjfmaa.D
