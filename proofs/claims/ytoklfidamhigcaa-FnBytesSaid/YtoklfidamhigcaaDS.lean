/- A piece of code; a function. -/
import Derived.Test.YtoklfidamhigcaaDZ
namespace Go.Proofs.Ytoklfidamhigcaa.D
open Go.RowKit

def exitK (K : St → Prop) (Q : Exit → St → Prop) : Exit → St → Prop
  | .normal, S => K S
  | e, S => Q e S
def blockK (id : Nat) (Q : Exit → St → Prop) : Exit → St → Prop
  | .exit i, S => if i = id then Q .normal S else Q (.exit i) S
  | e, S => Q e S

/-- What S says of a world, S' says too. -/
def Le (S S' : St) : Prop := ∀ w0 M N V0 a w, Sat w0 M N V0 S a w → Sat w0 M N V0 S' a w
theorem Le.refl (S : St) : Le S S := fun _ _ _ _ _ _ h => h

def wpD (P : Program) (tb : TypeId → Option TyI) : Code → St → (Exit → St → Prop) → Prop
  | .skip, S, Q => Q .normal S
  | .seq x y, S, Q => ∃ R : St → Prop, wpD P tb x S (exitK R Q) ∧ ∀ S', R S' → ∃ S1, Le S' S1 ∧ wpD P tb y S1 Q
  | .cond c x y, S, Q =>
    match S.ev c with
    | .one (.dv (.sc (.bool b))) => guardD b (wpD P tb x S Q) (wpD P tb y S Q)
    | _ => False
  | .block id c, S, Q => wpD P tb c S (blockK id Q)
  | .exit id, S, Q => Q (.exit id) S
  | .ret, S, Q => Q .ret S
  | .region id ops false, S, Q => opsD P tb (4096 * (id + 1)) ops.toList 0 ops.toList S (Q .normal)
  | .region id ops true, S, Q => (∃ plan, planOk tb ops true ops.size [] (Array.replicate ops.size false) plan = true ∧ planD P tb (4096 * (id + 1)) ops plan S (Q .normal)) ∨
      GD P tb (4096 * (id + 1)) ops ops.size [] (Array.replicate ops.size false) S (Q .normal)
  | .loop c, S, Q => ∃ (I : Nat → St → Prop), (∃ n S0, Le S S0 ∧ I n S0) ∧ ∀ m S', I m S' → wpD P tb c S' (exitK (fun S'' => ∃ k S3, k < m ∧ Le S'' S3 ∧ I k S3) Q)
  | _, _, _ => False

/-- Every slot that is written is there. -/
def slotsOk (N : Nat) : Code → Bool
  | .seq x y => slotsOk N x && slotsOk N y
  | .cond _ x y => slotsOk N x && slotsOk N y
  | .block _ c => slotsOk N c
  | .loop c => slotsOk N c
  | .region _ ops _ => ops.all fun o => match o.dst with | some t => t < N | none => true
  | _ => true

section
variable {P : Program} (tb : Tab P) {w0 : World} {M : Rows0} {N : Nat} {V0 : View}

/-- A post on states, as one on worlds. -/
def lift (w0 : World) (M : Rows0) (N : Nat) (V0 : View) (Q : Exit → St → Prop) : Exit → Act → World → Prop := fun e a w => ∃ S, Q e S ∧ Sat w0 M N V0 S a w

theorem wp_loopJ {P : Program} {Q : Exit → Act → World → Prop} {c : Code} (J : Nat → Act → World → Prop)
    (round : ∀ n a w, J n a w → c.wp P (Exit.then (fun a' w' => ∃ m, m < n ∧ J m a' w') Q) a w) : ∀ (n : Nat) (a : Act) (w : World), J n a w → (Code.loop c).wp P Q a w := by
  intro n a w h0 b k cs
  have key : ∀ n a w, J n a w → ∃ e a' w', Q e a' w' ∧ Arrives P (lone (b.at a (.code c :: .inLoop c :: k)) cs w) b k cs e a' w' := by
    intro n
    induction n using Nat.strongRecOn with
    | _ n ih =>
      intro a w hJ
      obtain ⟨e, a₁, w₁, hq, harr⟩ := round n a w hJ b (.inLoop c :: k) cs
      cases e with
      | normal =>
        obtain ⟨m, hlt, hJ₁⟩ := hq
        obtain ⟨e₂, a₂, w₂, hq₂, harr₂⟩ := ih m hlt a₁ w₁ hJ₁
        exact ⟨e₂, a₂, w₂, hq₂, .of_steps (Steps.trans harr (.one step_inLoop)) harr₂⟩
      | exit id => exact ⟨_, a₁, w₁, hq, .pass (x := .inLoop c) rfl (fun _ _ => .inl (by simp)) harr⟩
      | goto l => exact ⟨_, a₁, w₁, hq, .pass (x := .inLoop c) rfl (fun _ _ => .inl (by simp)) harr⟩
      | ret => exact ⟨_, a₁, w₁, hq, .pass (x := .inLoop c) rfl (fun _ _ => .inl (by simp)) harr⟩
      | panic ch => exact ⟨_, a₁, w₁, hq, .pass (x := .inLoop c) rfl (fun _ _ => .inl (by simp)) harr⟩
      | outgrown => exact ⟨_, a₁, w₁, hq, .pass (x := .inLoop c) rfl (fun _ _ => .inl (by simp)) harr⟩
  obtain ⟨e, a', w', hq, harr⟩ := key n a w h0
  exact ⟨e, a', w', hq, .of_steps (.one step_loop) harr⟩

theorem wpD_ok : ∀ (c : Code) (S : St) (a : Act) (w : World) (Q : Exit → St → Prop), slotsOk N c = true → wpD P tb.tb c S Q → Sat w0 M N V0 S a w → c.wp P (lift w0 M N V0 Q) a w
  | .skip, S, a, w, Q, _, h, hs => wp_skip ⟨S, h, hs⟩
  | .seq x y, S, a, w, Q, hok, h, hs => by
    simp only [slotsOk, Bool.and_eq_true] at hok
    obtain ⟨R, h, hR⟩ := h
    refine wp_seq (wp_mono (wpD_ok x S a w _ hok.1 h hs) ?_)
    rintro e a' w' ⟨S', h1, h2⟩
    cases e with
    | normal =>
      obtain ⟨S1, hle, h3⟩ := hR S' h1
      exact wpD_ok y S1 a' w' Q hok.2 h3 (hle _ _ _ _ _ _ h2)
    | _ => exact ⟨S', h1, h2⟩
  | .cond c x y, S, a, w, Q, hok, h, hs => by
    simp only [slotsOk, Bool.and_eq_true] at hok
    simp only [wpD] at h
    split at h
    · rename_i b hb
      have hv : a.eval c = .bool b := by
        obtain ⟨V, bs, _, _, hs1⟩ := hs
        have := ev_ok hs1.tmps c; rw [hb] at this; exact vr_sc this
      exact wp_cond_split hv (fun e => wpD_ok x S a w Q hok.1 (h.1 e) hs) (fun e => wpD_ok y S a w Q hok.2 (h.2 e) hs)
    · exact h.elim
  | .block id c, S, a, w, Q, hok, h, hs => by
    refine wp_block (wp_mono (wpD_ok c S a w _ hok h hs) ?_)
    rintro e a' w' ⟨S', h1, h2⟩
    cases e with
    | exit i =>
      simp only [blockK] at h1
      simp only [Exit.inBlock]
      split at h1
      · rename_i e; rw [if_pos e]; exact ⟨S', h1, h2⟩
      · rename_i e; rw [if_neg e]; exact ⟨S', h1, h2⟩
    | _ => exact ⟨S', h1, h2⟩
  | .exit id, S, a, w, Q, _, h, hs => wp_exit ⟨S, h, hs⟩
  | .ret, S, a, w, Q, _, h, hs => wp_ret ⟨S, h, hs⟩
  | .region id ops false, S, a, w, Q, hok, h, hs => by
    refine wp_region ?_
    have hd : ∀ o ∈ ops, ∀ t, o.dst = some t → t < N := by
      intro o ho t ht
      simp only [slotsOk, Array.all_eq_true_iff_forall_mem] at hok
      have := hok o ho
      rw [ht] at this; simpa using this
    have := opsD_ok (N := N) (M := M) (w0 := w0) (V0 := V0) tb (ops := ops) hd (base := 4096 * (id + 1)) (Q := lift w0 M N V0 Q) (K := Q .normal) (fun S a w h1 h2 => ⟨S, h1, h2⟩) ops.toList 0 S a w (by simp) hs h
    rw [List.range_eq_range']
    simpa using this
  | .loop c, S, a, w, Q, hok, h, hs => by
    obtain ⟨I, ⟨n, S0, hle, hI⟩, hround⟩ := h
    refine wp_loopJ (fun n a w => ∃ S, I n S ∧ Sat w0 M N V0 S a w) ?_ n a w ⟨S0, hI, hle _ _ _ _ _ _ hs⟩
    rintro m a' w' ⟨S', h1, h2⟩
    refine wp_mono (wpD_ok c S' a' w' _ hok (hround m S' h1) h2) ?_
    rintro e a2 w2 ⟨S2, h3, h4⟩
    cases e with
    | normal => obtain ⟨k, S3, hk, hle3, h5⟩ := h3; exact ⟨k, hk, S3, h5, hle3 _ _ _ _ _ _ h4⟩
    | _ => exact ⟨S2, h3, h4⟩
  | .region id ops true, S, a, w, Q, hok, h, hs => by
    have hd : ∀ o ∈ ops, ∀ t, o.dst = some t → t < N := by
      intro o ho t ht
      simp only [slotsOk, Array.all_eq_true_iff_forall_mem] at hok
      have := hok o ho
      rw [ht] at this; simpa using this
    rcases h with ⟨plan, hp, h⟩ | h
    · exact drawn_ok (N := N) (M := M) (w0 := w0) (V0 := V0) tb tb.mixed hd (Q := lift w0 M N V0 Q) (K := Q .normal) (fun S a w h1 h2 => ⟨S, h1, h2⟩) plan hp hs h
    · refine wp_region_any tb.mixed ?_
      refine GD_ok (N := N) (M := M) (w0 := w0) (V0 := V0) tb hd (Q := lift w0 M N V0 Q) (K := Q .normal) (fun S a w h1 h2 => ⟨S, h1, h2⟩) _ [] _ S _ _ ?_ h
      obtain ⟨V, bs, h0, h1, hs1⟩ := hs
      exact ⟨V, bs, h0, h1, hs1.drew _⟩
  | .rangeFunc .., _, _, _, _, _, h, _ => h.elim
  | .scope _, _, _, _, _, _, h, _ => h.elim
  | .label _, _, _, _, _, _, h, _ => h.elim
  | .goto _, _, _, _, _, _, h, _ => h.elim
  | .refuse _, _, _, _, _, _, h, _ => h.elim

/-- What a function gives back. -/
def resD (tb : TypeId → Option TyI) (S : St) : List ResultVar → (List SV → Prop) → Prop
  | [], K => K []
  | .tmp t :: rs, K => resD tb S rs fun vs => K (S.T t :: vs)
  | .cell t ty :: rs, K =>
    match tb ty, S.T t with
    | some i, .one c => (match ptrCells S c with | some (cs, o) => selD i cs o fun v => resD tb S rs fun vs => K (v :: vs) | none => False)
    | _, _ => False
def pairS : SV → Option (Bool × List CV) | .one c => some (false, [c]) | .agg cs => some (true, cs) | .tup _ => none
def pairsS : List SV → Option (List (Bool × List CV))
  | [] => some []
  | v :: vs => match pairS v, pairsS vs with | some p, some ps => some (p :: ps) | _, _ => none
def joinD (vs : List SV) (K : SV → Prop) : Prop :=
  match vs with
  | [v] => K v
  | vs => match pairsS vs with | some ps => K (.tup ps) | none => False
/-- What is given back, by the names that go out; other own rows are read. -/
def argPs (S : St) (out : List Nat) : List (Bool × List CV) → (List (Bool × List CV) → Prop) → Prop
  | [], K => K []
  | (b, cs) :: ps, K => argCs true S out cs fun cs' => argPs S out ps fun ps' => K ((b, cs') :: ps')
def argR (S : St) (out : List Nat) (v : SV) (K : SV → Prop) : Prop :=
  match v with
  | .one c => argC true S out c fun c' => K (.one c')
  | .agg cs => argCs true S out cs fun cs' => K (.agg cs')
  | .tup ps => argPs S out ps fun ps' => K (.tup ps')
def flatEs (es : List (List DV)) : Prop := ∀ e ∈ es, ∀ d ∈ e, flatD d = true
def cleanC (S : St) (out : List Nat) : CV → Prop
  | .dv d => flatD d = true
  | .dp _ _ => False
  | .os p _ _ _ => p ∈ out ∨ (match S.L p with | some (.own _ es) => flatEs es | _ => True)
  | _ => True
def cleanS (S : St) (out : List Nat) : SV → Prop
  | .one c => cleanC S out c
  | .agg cs => ∀ c ∈ cs, cleanC S out c
  | .tup ps => ∀ p ∈ ps, ∀ c ∈ p.2, cleanC S out c
def cleanR (S : St) (out : List Nat) : Row → Prop
  | .box cs => ∀ c ∈ cs, cleanC S out c
  | .own _ es => flatEs es
/-- A nil slice is an empty one, read or own. -/
def wkC (c c' : CV) : Prop := c' = c ∨ (c = .nil ∧ (c' = .dv (.sl []) ∨ ∃ p k, c' = .os p k 0 0))
def wkCs : List CV → List CV → Prop
  | [], [] => True
  | c :: cs, c' :: cs' => wkC c c' ∧ wkCs cs cs'
  | _, _ => False
def wkPs : List (Bool × List CV) → List (Bool × List CV) → Prop
  | [], [] => True
  | (b, cs) :: ps, (b', cs') :: ps' => (b = b' ∧ wkCs cs cs') ∧ wkPs ps ps'
  | _, _ => False
def wkS : SV → SV → Prop
  | .one c, .one c' => wkC c c'
  | .agg cs, .agg cs' => wkCs cs cs'
  | .tup ps, .tup ps' => wkPs ps ps'
  | _, _ => False
theorem wkC_ok {V : View} {bs : Loc} {c c' : CV} {v : Value} (h : CR V bs c v) (hw : wkC c c') : CR V bs c' v := by
  rcases hw with rfl | ⟨rfl, rfl | ⟨p, k, rfl⟩⟩
  · exact h
  · cases h; exact .dv (.nil _ _)
  · cases h; exact .oszero
theorem wkCs_ok {V : View} {bs : Loc} {cs : List CV} {vs : List Value} (h : CRs V bs cs vs) : ∀ {cs' : List CV}, wkCs cs cs' → CRs V bs cs' vs := by
  induction h with
  | nil => intro cs' hw; cases cs' with
    | nil => exact .nil
    | cons => exact hw.elim
  | cons h _ ih => intro cs' hw; cases cs' with
    | nil => exact hw.elim
    | cons c' cs' => exact .cons (wkC_ok h hw.1) (ih hw.2)
theorem wkPs_ok {V : View} {bs : Loc} : ∀ {ps ps' : List (Bool × List CV)} {vs : List Value}, ps.length = vs.length →
    (∀ (i : Nat) b cs u, ps[i]? = some (b, cs) → vs[i]? = some u → (b = true ∧ ∃ us, u = .agg us.toArray ∧ CRs V bs cs us) ∨ (b = false ∧ ∃ c, cs = [c] ∧ CR V bs c u)) → wkPs ps ps' →
    ps'.length = vs.length ∧ ∀ (i : Nat) b cs u, ps'[i]? = some (b, cs) → vs[i]? = some u → (b = true ∧ ∃ us, u = .agg us.toArray ∧ CRs V bs cs us) ∨ (b = false ∧ ∃ c, cs = [c] ∧ CR V bs c u)
  | [], [], vs, hl, hr, _ => ⟨hl, fun i b cs u h => by simp at h⟩
  | (b, cs) :: ps, (b', cs') :: ps', [], hl, hr, hw => by simp at hl
  | (b, cs) :: ps, (b', cs') :: ps', v :: vs, hl, hr, hw => by
    obtain ⟨⟨rfl, h1⟩, h2⟩ := hw
    obtain ⟨h3, h4⟩ := wkPs_ok (ps := ps) (ps' := ps') (vs := vs) (by simpa using hl) (fun i b cs u g1 g2 => hr (i + 1) b cs u (by simpa using g1) (by simpa using g2)) h2
    refine ⟨by simp [h3], fun i b2 cs2 u g1 g2 => ?_⟩
    cases i with
    | zero =>
      simp at g1 g2; obtain ⟨rfl, rfl⟩ := g1; subst g2
      rcases hr 0 b cs v rfl rfl with ⟨e, us, e2, r⟩ | ⟨e, c, e2, r⟩
      · exact .inl ⟨e, us, e2, wkCs_ok r h1⟩
      · subst e2
        cases cs' with
        | nil => exact h1.elim
        | cons c' cs' => cases cs' with
          | nil => exact .inr ⟨e, c', rfl, wkC_ok r h1.1⟩
          | cons => exact h1.2.elim
    | succ i => exact h4 i b2 cs2 u (by simpa using g1) (by simpa using g2)
  | [], _ :: _, _, _, _, hw => hw.elim
  | _ :: _, [], _, _, _, hw => by simp [wkPs] at hw
theorem wkS_ok {V : View} {bs : Loc} {sv sv' : SV} {v : Value} (h : VR V bs sv v) (hw : wkS sv sv') : VR V bs sv' v := by
  cases h with
  | one h => cases sv' with
    | one c' => exact .one (wkC_ok h hw)
    | _ => exact hw.elim
  | agg h => cases sv' with
    | agg c' => exact .agg (wkCs_ok h hw)
    | _ => exact hw.elim
  | tup hl hr => cases sv' with
    | tup ps' => exact .tup (wkPs_ok hl hr hw).1 (wkPs_ok hl hr hw).2
    | _ => exact hw.elim
/-- Rows of nothing. -/
def St.empties (S : St) : List (Nat × Nat) → St
  | [] => S
  | (p, k) :: zs => St.empties ({ S with L := upd S.L p (some (.own k [])) } : St) zs
def emptiesOk (S : St) : List (Nat × Nat) → Prop
  | [] => True
  | (p, k) :: zs => (S.L p = none ∧ 1000 ≤ p) ∧ emptiesOk ({ S with L := upd S.L p (some (.own k [])) } : St) zs
theorem Sat1.empties {w0 : World} {M : Rows0} {N : Nat} {V : View} {bs : Loc} {a : Act} {w : World} : ∀ {zs : List (Nat × Nat)} {S : St}, Sat1 w0 M N V bs S a w → emptiesOk S zs → Sat1 w0 M N V bs (S.empties zs) a w
  | [], _, h, _ => h
  | (p, k) :: zs, S, h, ho => Sat1.empties (S := { S with L := upd S.L p (some (.own k [])) }) (h.empty ho.1.1 ho.1.2 k) ho.2
def finD (S : St) (sv : SV) (n : Nat) (mv : List Nat) (cl : Bool) (Post : SV → List Row → Prop) : Prop :=
  ∃ (zs : List (Nat × Nat)) (sv' : SV) (out : List Nat), (emptiesOk S zs ∧ wkS sv sv' ∧ ∀ p ∈ (S.empties zs).mv, p < n → p ∈ mv) ∧ (out.Nodup ∧ out.take n = List.range n) ∧
    (cl = true → cleanS (S.empties zs) out sv' ∧ ∀ p ∈ out, ∀ r, (S.empties zs).L p = some r → cleanR (S.empties zs) out r) ∧
    argR (S.empties zs) out sv' fun res => rowsD true (S.empties zs) out out fun Lo => Post res Lo
def retD (tb : TypeId → Option TyI) (rs : List ResultVar) (n : Nat) (mv : List Nat) (cl : Bool) (Post : SV → List Row → Prop) : Exit → St → Prop
  | .normal, S => resD tb S rs fun vs => joinD vs fun sv => finD S sv n mv cl Post
  | .ret, S => resD tb S rs fun vs => joinD vs fun sv => finD S sv n mv cl Post
  | _, _ => False
end
end Go.Proofs.Ytoklfidamhigcaa.D
