/- Regions that draw their order: one order stands for all. -/
import Derived.Test.YtoklfidamhigcaaDY
namespace Go.Proofs.Ytoklfidamhigcaa.D
open Go.RowKit

/-- A guard's truth value; what was passed over is never wanted. -/
def guardOf (ops : Array Oper) (S : St) (j : Nat) (want : Bool) : Option Bool :=
  match (ops[j]?).bind (·.dst) with
  | some t => (match S.T t with | .one (.dv (.sc (.bool b))) => some b | .tup [] => some !want | _ => none)
  | none => none
def stepD (P : Program) (tb : TypeId → Option TyI) (base : Nat) (ops : Array Oper) (i : Nat) (S : St) (K : St → Prop) : Prop :=
  match ops[i]? with
  | some o =>
    (match o.guard with
    | none => opD P tb (base + 16 * i) S o.op o.dst K
    | some (j, want) =>
      (match guardOf ops S j want with
      | some b => (b = want → opD P tb (base + 16 * i) S o.op o.dst K) ∧ (b ≠ want → K (S.put o.dst (.tup [])))
      | none => False))
  | none => False
/-- .. of an operation that gives a value. -/
def stepV (tb : TypeId → Option TyI) (ops : Array Oper) (o : Oper) (S : St) (K : SV → Prop) : Prop :=
  match o.guard with
  | none => valX tb S o.op K
  | some (j, want) =>
    (match guardOf ops S j want with
    | some b => (b = want → valX tb S o.op K) ∧ (b ≠ want → K (.tup []))
    | none => False)
def recheck (tb : TypeId → Option TyI) (ops : Array Oper) (i : Nat) (S : St) : Prop :=
  ∃ o t, ops[i]? = some o ∧ o.dst = some t ∧ stepV tb ops o S fun v => v = S.T t
/-- What is before an operation, straight or by others. -/
def preds (ops : Array Oper) (j : Nat) : List Nat := match ops[j]? with | some o => (o.after.toList.filter fun e => Region.binds .any e).map (·.on) | none => []
def ancS (ops : Array Oper) : Nat → List Nat → List Nat → List Nat
  | 0, _, seen => seen
  | _ + 1, [], seen => seen
  | n + 1, k :: fr, seen => if seen.any (fun x => Nat.beq x k) = true then ancS ops n fr seen else ancS ops n (preds ops k ++ fr) (k :: seen)
def before (ops : Array Oper) (i j : Nat) : Bool := (ancS ops 4000 (preds ops j) []).any fun x => Nat.beq x i
def Closed (ops : Array Oper) (listed : Array Bool) : Prop := ∀ k, listed.getD k false = true → ∀ x ∈ preds ops k, listed.getD x false = true
theorem ancS_listed {ops : Array Oper} {listed : Array Bool} (hc : Closed ops listed) : ∀ (n : Nat) (fr seen : List Nat), (∀ k ∈ fr, listed.getD k false = true) → (∀ k ∈ seen, listed.getD k false = true) → ∀ k ∈ ancS ops n fr seen, listed.getD k false = true
  | 0, _, _, _, hs => hs
  | _ + 1, [], _, _, hs => hs
  | n + 1, k :: fr, seen, hf, hs => by
    unfold ancS
    split
    · exact ancS_listed hc n fr seen (fun x hx => hf x (List.mem_cons_of_mem _ hx)) hs
    · refine ancS_listed hc n _ _ (fun x hx => (List.mem_append.1 hx).elim (hc k (hf k (List.mem_cons_self ..)) x) (fun h => hf x (List.mem_cons_of_mem _ h))) (fun x hx => (List.mem_cons.1 hx).elim (fun e => e ▸ hf k (List.mem_cons_self ..)) (hs x))
theorem preds_of_ready {ops : Array Oper} {listed : Array Bool} {j : Nat} (hj : j ∈ Region.ready .any ops listed) : ∀ x ∈ preds ops j, listed.getD x false = true := by
  obtain ⟨_, oj, hoj, hall⟩ := mem_ready.1 hj
  intro x hx
  simp only [preds, hoj, List.mem_map, List.mem_filter] at hx
  obtain ⟨e, ⟨he, hb⟩, rfl⟩ := hx
  exact hall e (by simpa using he) hb
theorem Closed.set {ops : Array Oper} {listed : Array Bool} {j : Nat} (hc : Closed ops listed) (hj : j ∈ Region.ready .any ops listed) : Closed ops (listed.setIfInBounds j true) := by
  intro k hk x hx
  by_cases e : j = k
  · subst e; exact getD_set_true (preds_of_ready hj x hx)
  · rw [getD_set_ne false e] at hk; exact getD_set_true (hc k hk x hx)

section
variable {P : Program} {tb : TypeId → Option TyI} {ops : Array Oper} {base : Nat} {S S' : St}

theorem opnd_of_looks {o : Oper} {d : Tmp} (h : d ∉ o.looksAt ops) : ∀ x ∈ o.op.operands, x ≠ .tmp d := by
  rintro x hx rfl
  refine h ?_
  simp only [Oper.looksAt, List.mem_append, List.mem_filterMap]
  exact .inl ⟨.tmp d, by simpa using hx, rfl⟩
theorem guardOf_off {o : Oper} {d : Tmp} (h : d ∉ o.looksAt ops) {j : Nat} {want : Bool} (hg : o.guard = some (j, want)) (ho : OffD d S S') : guardOf ops S j want = guardOf ops S' j want := by
  unfold guardOf
  split
  · rename_i t ht
    have : t ≠ d := by
      rintro rfl
      refine h ?_
      simp only [Oper.looksAt, List.mem_append, hg]
      exact .inr (by simp [ht])
    rw [ho.1 t this]
  · rfl
theorem stepD_off {d : Tmp} {i : Nat} {o : Oper} (hi : ops[i]? = some o) (hd : d ∉ o.looksAt ops) (ho : OffD d S S') {K : St → Prop} (h : stepD P tb base ops i S K) : stepD P tb base ops i S' (Off1 d K) := by
  simp only [stepD, hi] at h ⊢
  split at h
  · exact opD_off ho (opnd_of_looks hd) h
  · rename_i j want hg
    rw [← guardOf_off hd hg ho]
    split at h
    · exact ⟨fun e => opD_off ho (opnd_of_looks hd) (h.1 e), fun e => ⟨_, h.2 e, ho.put _ _⟩⟩
    · exact h.elim
theorem stepV_off {d : Tmp} {o : Oper} (hd : d ∉ o.looksAt ops) (ho : OffD d S S') {K K' : SV → Prop} (hk : ∀ v, K v → K' v) (h : stepV tb ops o S K) : stepV tb ops o S' K' := by
  simp only [stepV] at h ⊢
  split at h
  · exact valX_off ho (opnd_of_looks hd) hk h
  · rename_i j want hg
    rw [← guardOf_off hd hg ho]
    split at h
    · exact ⟨fun e => valX_off ho (opnd_of_looks hd) hk (h.1 e), fun e => hk _ (h.2 e)⟩
    · exact h.elim
theorem stepV_mono {o : Oper} {K K' : SV → Prop} (hk : ∀ v, K v → K' v) (h : stepV tb ops o S K) : stepV tb ops o S K' := by
  simp only [stepV] at h ⊢
  split at h
  · exact valX_mono hk h
  · split at h
    · exact ⟨fun e => valX_mono hk (h.1 e), fun e => hk _ (h.2 e)⟩
    · exact h.elim
theorem stepV_const {o : Oper} {p : Prop} (h : stepV tb ops o S fun _ => p) : p := by
  simp only [stepV] at h
  split at h
  · exact valX_const h
  · rename_i j want hg
    split at h
    · rename_i b hb
      by_cases e : b = want
      · exact valX_const (h.1 e)
      · exact h.2 e
    · exact h.elim
theorem stepD_stepV {i : Nat} {o : Oper} (hi : ops[i]? = some o) (hv : isV tb o.op = true) {K : St → Prop} : stepD P tb base ops i S K ↔ stepV tb ops o S fun v => K (S.put o.dst v) := by
  simp only [stepD, stepV, hi]
  split
  · exact opD_valX hv
  · split
    · simp only [opD_valX hv]
    · exact Iff.rfl

theorem appD_mono {nm : Nat} {dst : Option Tmp} {s x : Operand} {t t' : TypeId} {K K' : St → Prop} (hk : ∀ T, K T → K' T) (h : appD tb nm S dst s x t t' K) : appD tb nm S dst s x t t' K' := by
  unfold appD at h ⊢
  split at h
  · split at h
    · refine ⟨h.1, ?_⟩
      replace h := h.2
      split at h
      · exact ⟨h.1, srcD_mono (fun es h => ⟨h.1, hk _ h.2⟩) h.2⟩
      · split at h
        · exact ⟨h.1, srcD_mono (fun es h => ⟨h.1, hk _ h.2⟩) h.2⟩
        · exact h.elim
      · split at h
        · split at h
          · exact ⟨h.1, srcD_mono (fun es h => ⟨h.1, hk _ h.2⟩) h.2⟩
          · exact h.elim
        · exact h.elim
      · exact h.elim
    · exact h.elim
  · exact h.elim
theorem memD_mono {nm : Nat} {op : Op} {dst : Option Tmp} {K K' : St → Prop} (hk : ∀ T, K T → K' T) (h : memD tb nm S op dst K) : memD tb nm S op dst K' := by
  have val : valD tb S op (fun v => K (S.put dst v)) → valD tb S op (fun v => K' (S.put dst v)) := valD_mono fun v h => hk _ h
  cases op with
  | box t x =>
    simp only [memD] at h ⊢
    split at h
    · exact ⟨h.1, hk _ h.2⟩
    · exact h.elim
  | alloc t =>
    simp only [memD] at h ⊢
    split at h
    · exact ⟨h.1, hk _ h.2⟩
    · exact h.elim
  | store t x v =>
    simp only [memD] at h ⊢
    split at h
    · exact ⟨h.1, storeD_mono' h.2 fun T h => hk _ h⟩
    · exact h.elim
  | buildSlice t len parts =>
    simp only [memD] at h ⊢
    split at h
    · split at h
      · refine ⟨h.1, ?_⟩
        replace h := h.2
        split at h
        · exact deepCells_mono' rfl h fun T ds h => hk _ h
        · exact h.elim
      · exact h.elim
    · exact h.elim
  | makeSlice t l c =>
    simp only [memD] at h ⊢
    split at h
    · split at h
      · exact mapInt_mono (fun _ _ h => mapInt_mono (fun _ _ h => ⟨h.1, hk _ h.2⟩) h) h
      · exact h.elim
    · exact h.elim
  | call c =>
    simp only [memD] at h ⊢
    split at h
    · exact appD_mono hk h
    · exact callValD_mono (fun v h => hk _ h) h
  | convert s t x =>
    simp only [memD] at h ⊢
    split at h
    · split at h
      · exact ⟨h.1, hk _ h.2⟩
      · exact h.elim
    · exact h.elim
    · split at h
      · refine srcD_mono (fun es h => ?_) h
        obtain ⟨bs, h1, h2⟩ := h
        exact ⟨bs, h1, hk _ h2⟩
      · exact h.elim
    · exact val h
  | _ => exact val h
theorem opD_mono {nm : Nat} {op : Op} {dst : Option Tmp} {K K' : St → Prop} (hk : ∀ T, K T → K' T) (h : opD P tb nm S op dst K) : opD P tb nm S op dst K' := by
  unfold opD at h ⊢
  split at h
  · split at h
    · obtain ⟨ps, bor, f, h1, h2, h⟩ := h
      refine ⟨ps, bor, f, h1, h2, argSs_mono (fun args' h => rowsD_mono (fun Li h => ?_) h) h⟩
      obtain ⟨mv, cl, Post, hc, hcl, h⟩ := h
      refine ⟨mv, cl, Post, hc, hcl, fun res Lo hp => ?_⟩
      obtain ⟨g1, g3⟩ := h res Lo hp
      exact ⟨g1, hk _ g3⟩
    · exact memD_mono hk h
  · exact memD_mono hk h
theorem stepD_mono {i : Nat} {K K' : St → Prop} (hk : ∀ T, K T → K' T) (h : stepD P tb base ops i S K) : stepD P tb base ops i S K' := by
  unfold stepD at h ⊢
  split at h
  · split at h
    · exact opD_mono hk h
    · split at h
      · exact ⟨fun e => opD_mono hk (h.1 e), fun e => hk _ (h.2 e)⟩
      · exact h.elim
  · exact h.elim

/-- In whatever order: from here on, and what was taken first (H) would still give the same. -/
def GD (P : Program) (tb : TypeId → Option TyI) (base : Nat) (ops : Array Oper) : Nat → List Nat → Array Bool → St → (St → Prop) → Prop
  | 0, _, listed, S, K => Region.ready .any ops listed = [] ∧ K S
  | n + 1, H, listed, S, K => (Region.ready .any ops listed = [] → K S) ∧ ∀ j ∈ Region.ready .any ops listed, stepD P tb base ops j S fun S' =>
      ∃ H', (∀ i ∈ H', i ∈ H) ∧ (∀ i ∈ H, i ∈ H' ∨ before ops i j = true) ∧ (∀ i ∈ H', recheck tb ops i S') ∧ GD P tb base ops n H' (listed.setIfInBounds j true) S' K

theorem GD.mono : ∀ {n : Nat} {H H2 : List Nat} {listed : Array Bool} {S : St} {K : St → Prop}, GD P tb base ops n H listed S K → (∀ x ∈ H2, x ∈ H) → GD P tb base ops n H2 listed S K
  | 0, _, _, _, _, _, h, _ => h
  | n + 1, H, H2, listed, S, K, h, hs => by
    refine ⟨h.1, fun j hj => stepD_mono (fun T h => ?_) (h.2 j hj)⟩
    obtain ⟨H', h1, h2, h3, h4⟩ := h
    refine ⟨H'.filter (fun x => H2.contains x), fun x hx => ?_, fun x hx => ?_, fun x hx => h3 x (List.mem_filter.1 hx).1, h4.mono fun x hx => (List.mem_filter.1 hx).1⟩
    · simpa using (List.mem_filter.1 hx).2
    · exact (h2 x (hs x hx)).imp (fun h => List.mem_filter.2 ⟨h, by simpa using hx⟩) id
theorem before_of_ready {i j : Nat} {listed : Array Bool} (hc : Closed ops listed) (hj : j ∈ Region.ready .any ops listed) (hi : listed.getD i true = false) : before ops i j = false := by
  cases hx : before ops i j with
  | false => rfl
  | true =>
    exfalso
    obtain ⟨x, hx2, hb⟩ := List.any_eq_true.1 hx
    obtain rfl := Nat.eq_of_beq_eq_true hb
    have h1 := ancS_listed hc 4000 (preds ops j) [] (preds_of_ready hj) (by simp) x hx2
    rcases Nat.lt_or_ge x listed.size with h' | h'
    · simp [h'] at hi h1; rw [hi] at h1; cases h1
    · simp [Array.getElem?_eq_none h'] at h1
theorem put_back {t : Tmp} {S1 S2 : St} (h : OffD t S1 S2) : S2.put (some t) (S1.T t) = S1 := by
  obtain ⟨T1, L1, m1⟩ := S1
  obtain ⟨T2, L2, m2⟩ := S2
  obtain ⟨h1, h2, h3⟩ := h
  simp only at h1 h2 h3
  subst h2
  subst h3
  simp only [St.put, St.mk.injEq, and_true]
  funext u
  by_cases e : u = t
  · subst e; simp
  · rw [upd_ne _ _ _ _ e, h1 u e]
theorem off_put (t : Tmp) (S : St) (v : SV) : OffD t (S.put (some t) v) S := ⟨fun u hu => by simp only [St.put]; exact upd_ne _ _ _ _ hu, rfl, rfl⟩
theorem recheck_off {i' : Nat} {t : Tmp} (h1 : ∀ o', ops[i']? = some o' → t ∉ o'.looksAt ops ∧ o'.dst ≠ some t) (ho : OffD t S S') (h : recheck tb ops i' S) : recheck tb ops i' S' := by
  obtain ⟨o, u, hi, hu, hs⟩ := h
  obtain ⟨g1, g2⟩ := h1 o hi
  refine ⟨o, u, hi, hu, stepV_off g1 ho (fun v hv => ?_) hs⟩
  rw [hv]; exact ho.1 u (by rintro rfl; exact g2 hu)

theorem take_first {i : Nat} {o : Oper} {t : Tmp} (hi : ops[i]? = some o) (ht : o.dst = some t) (hV : isV tb o.op = true) (hself : t ∉ o.looksAt ops) :
    ∀ (n : Nat) (H : List Nat) (listed : Array Bool) (S : St) (K : St → Prop), Closed ops listed → i ∈ Region.ready .any ops listed →
      (∀ j oj, ops[j]? = some oj → j ≠ i → listed.getD j true = false → before ops i j = false → o.apart ops oj = true) →
      (∀ i' ∈ H, ∀ o', ops[i']? = some o' → t ∉ o'.looksAt ops ∧ o'.dst ≠ some t) → (∀ i' ∈ H, recheck tb ops i' S) →
      stepV tb ops o S (fun v => GD P tb base ops n (i :: H) (listed.setIfInBounds i true) (S.put (some t) v) K) → GD P tb base ops (n + 1) H listed S K := by
  intro n
  induction n with
  | zero =>
    intro H listed S K hc hr hfree hH hre h
    refine ⟨fun h0 => (by rw [h0] at hr; cases hr), fun j hj => ?_⟩
    have key : j = i := by
      apply Classical.byContradiction
      intro hji
      have h1 := stepV_const (stepV_mono (K' := fun _ => Region.ready .any ops (listed.setIfInBounds i true) = []) (fun v h => h.1) h)
      have := ready_mono hj hji
      rw [h1] at this; cases this
    subst key
    rw [stepD_stepV hi hV]
    refine stepV_mono (fun v h => ?_) h
    rw [ht]
    exact ⟨H, fun _ h => h, fun _ h => .inl h, fun i' hi' => recheck_off (hH i' hi') (off_put t S v).symm (hre i' hi'), h.mono fun x hx => List.mem_cons_of_mem _ hx⟩
  | succ n ih =>
    intro H listed S K hc hr hfree hH hre h
    refine ⟨fun h0 => (by rw [h0] at hr; cases hr), fun j hj => ?_⟩
    by_cases hji : j = i
    · subst hji
      rw [stepD_stepV hi hV]
      refine stepV_mono (fun v h => ?_) h
      rw [ht]
      exact ⟨H, fun _ h => h, fun _ h => .inl h, fun i' hi' => recheck_off (hH i' hi') (off_put t S v).symm (hre i' hi'), h.mono fun x hx => List.mem_cons_of_mem _ hx⟩
    · have hun := (mem_ready.1 hr).1
      have hnb := before_of_ready hc hj hun
      obtain ⟨hjun, oj, hoj, hjall⟩ := mem_ready.1 hj
      have hap := hfree j oj hoj hji hjun hnb
      obtain ⟨ha1, ha2, ha3⟩ := Oper.apart_spec hap
      -- what j does behind i, it does without i
      have h1 : stepD P tb base ops j S (Off1 t fun S1 => ∃ H', (∀ x ∈ H', x ∈ i :: H) ∧ (∀ x ∈ i :: H, x ∈ H' ∨ before ops x j = true) ∧ (∀ x ∈ H', recheck tb ops x S1) ∧
          GD P tb base ops n H' ((listed.setIfInBounds i true).setIfInBounds j true) S1 K) := by
        refine stepV_const (o := o) (S := S) (tb := tb) (stepV_mono (fun v h => ?_) h)
        exact stepD_off hoj (ha1 t ht) (off_put t S v) (h.2 j (ready_mono hj hji))
      refine stepD_mono (fun S2 h2 => ?_) h1
      obtain ⟨S1, ⟨H'', g1, g2, g3, g4⟩, ho⟩ := h2
      have hiH : i ∈ H'' := (g2 i (List.mem_cons_self ..)).resolve_right (by rw [hnb]; simp)
      have hni : i ∉ H := fun hm => (hH i hm o hi).2 ht
      refine ⟨H''.filter (fun x => x != i), fun x hx => ?_, fun x hx => ?_, fun x hx => ?_, ?_⟩
      · obtain ⟨h3, h4⟩ := List.mem_filter.1 hx
        exact (List.mem_cons.1 (g1 x h3)).resolve_left (by simpa using h4)
      · exact (g2 x (List.mem_cons_of_mem _ hx)).imp (fun h => List.mem_filter.2 ⟨h, by simp; rintro rfl; exact hni hx⟩) id
      · obtain ⟨h3, h4⟩ := List.mem_filter.1 hx
        have hxH : x ∈ H := (List.mem_cons.1 (g1 x h3)).resolve_left (by simpa using h4)
        exact recheck_off (hH x hxH) ho (g3 x h3)
      · have hsub : ∀ x ∈ H''.filter (fun x => x != i), x ∈ H := fun x hx => by
          obtain ⟨h3, h4⟩ := List.mem_filter.1 hx
          exact (List.mem_cons.1 (g1 x h3)).resolve_left (by simpa using h4)
        refine ih _ _ _ _ (hc.set hj) (ready_mono hr (Ne.symm hji)) (fun k ok hk hki hun' hb => hfree k ok hk hki ?_ hb) (fun x hx => hH x (hsub x hx)) (fun x hx => recheck_off (hH x (hsub x hx)) ho (g3 x (List.mem_filter.1 hx).1)) ?_
        · by_cases hjk : j = k
          · subst hjk; exact hjun
          · rw [getD_set_ne true hjk] at hun'; exact hun'
        · obtain ⟨o', u, q1, q2, q3⟩ := g3 i hiH
          rw [hi] at q1; injection q1 with q1; subst q1
          rw [ht] at q2; injection q2 with q2; subst q2
          refine stepV_off hself ho (fun v hv => ?_) q3
          rw [hv, put_back ho]
          rw [Array.setIfInBounds_comm _ _ hji]
          refine g4.mono fun x hx => ?_
          rcases List.mem_cons.1 hx with rfl | hx
          · exact hiH
          · exact (List.mem_filter.1 hx).1

theorem stepV_det {o : Oper} {K : SV → Prop} (h : stepV tb ops o S K) : ∃ v, K v ∧ ∀ K' : SV → Prop, K' v → stepV tb ops o S K' := by
  simp only [stepV] at h ⊢
  split at h
  · exact valX_det h
  · rename_i j want hg
    split at h
    · rename_i b hb
      by_cases e : b = want
      · obtain ⟨v, h1, h2⟩ := valX_det (h.1 e)
        exact ⟨v, h1, fun K' h' => ⟨fun _ => h2 _ h', fun e' => absurd e e'⟩⟩
      · exact ⟨_, h.2 e, fun K' h' => ⟨fun e' => absurd e' e, fun _ => h'⟩⟩
    · exact h.elim

/-- An order in which a region's operations are gone through: what is taken first; what is alone, and what is looked at again behind it; two ways. -/
inductive PS where
  | done
  | v (i : Nat) (rest : PS)
  | x (i : Nat) (re : List Nat) (rest : PS)
  | or (a b : PS)
def PS.heads : PS → List Nat
  | .x i _ _ => [i]
  | .or a b => a.heads ++ b.heads
  | _ => []
def vOk (tb : TypeId → Option TyI) (ops : Array Oper) (H : List Nat) (listed : Array Bool) (i : Nat) : Bool :=
  match ops[i]? with
  | some o => (match o.dst with
    | some t => isV tb o.op && !(o.looksAt ops).contains t && (H.all fun i' => match ops[i']? with | some o' => !(o'.looksAt ops).contains t && o'.dst != some t | none => true) &&
        (Region.ready .any ops listed).contains i && ((List.range ops.size).all fun j => j == i || listed.getD j true || before ops i j || (match ops[j]? with | some oj => o.apart ops oj | none => true))
    | none => false)
  | none => false
def planOk (tb : TypeId → Option TyI) (ops : Array Oper) (top : Bool) (n : Nat) (H : List Nat) (listed : Array Bool) : PS → Bool
  | .done => top && n == 0 && (Region.ready .any ops listed).isEmpty
  | .v i rest => top && n != 0 && vOk tb ops H listed i && planOk tb ops true (n - 1) (i :: H) (listed.setIfInBounds i true) rest
  | .x i re rest => (!top || Region.ready .any ops listed == [i]) && n != 0 && re == H.filter (fun x => !before ops x i) && planOk tb ops true (n - 1) re (listed.setIfInBounds i true) rest
  | .or a b => (!top || Region.ready .any ops listed == a.heads ++ b.heads) && n != 0 && planOk tb ops false n H listed a && planOk tb ops false n H listed b
def planD (P : Program) (tb : TypeId → Option TyI) (base : Nat) (ops : Array Oper) : PS → St → (St → Prop) → Prop
  | .done, S, K => K S
  | .v i rest, S, K => stepD P tb base ops i S fun S' => planD P tb base ops rest S' K
  | .x i re rest, S, K => stepD P tb base ops i S fun S' => (∀ i' ∈ re, recheck tb ops i' S') ∧ planD P tb base ops rest S' K
  | .or a b, S, K => planD P tb base ops a S K ∧ planD P tb base ops b S K

theorem vOk_spec {H : List Nat} {listed : Array Bool} {i : Nat} (h : vOk tb ops H listed i = true) : ∃ o t, ops[i]? = some o ∧ o.dst = some t ∧ isV tb o.op = true ∧ t ∉ o.looksAt ops ∧
    (∀ i' ∈ H, ∀ o', ops[i']? = some o' → t ∉ o'.looksAt ops ∧ o'.dst ≠ some t) ∧ i ∈ Region.ready .any ops listed ∧
    (∀ j oj, ops[j]? = some oj → j ≠ i → listed.getD j true = false → before ops i j = false → o.apart ops oj = true) := by
  unfold vOk at h
  split at h
  · rename_i o ho
    split at h
    · rename_i t ht
      simp only [Bool.and_eq_true, Bool.not_eq_true', List.all_eq_true] at h
      obtain ⟨⟨⟨⟨h1, h2⟩, h3⟩, h4⟩, h5⟩ := h
      refine ⟨o, t, ho, ht, h1, by simpa using h2, fun i' hi' o' ho' => ?_, by simpa using h4, fun j oj hj hji hl hb => ?_⟩
      · have := h3 i' hi'
        rw [ho'] at this
        simpa using this
      · have := h5 j (List.mem_range.2 (Array.getElem?_eq_some_iff.1 hj).1)
        simpa [hji, hl, hb, hj] using this
    · simp at h
  · simp at h

theorem plan_ok : ∀ (plan : PS) (n : Nat) (H : List Nat) (listed : Array Bool) (S : St) (K : St → Prop), Closed ops listed → (∀ i ∈ H, recheck tb ops i S) → planD P tb base ops plan S K →
    (planOk tb ops true n H listed plan = true → GD P tb base ops n H listed S K) ∧
    (planOk tb ops false n H listed plan = true → (∀ j ∈ plan.heads, j ∈ Region.ready .any ops listed) → ∃ m, n = m + 1 ∧ ∀ j ∈ plan.heads, stepD P tb base ops j S fun S' =>
      ∃ H', (∀ i ∈ H', i ∈ H) ∧ (∀ i ∈ H, i ∈ H' ∨ before ops i j = true) ∧ (∀ i ∈ H', recheck tb ops i S') ∧ GD P tb base ops m H' (listed.setIfInBounds j true) S' K)
  | .done, n, H, listed, S, K, hc, _, h => by
    refine ⟨fun hp => ?_, fun hp _ => by simp [planOk] at hp⟩
    simp only [planOk, Bool.true_and, Bool.and_eq_true, beq_iff_eq, List.isEmpty_iff] at hp
    obtain ⟨rfl, hp⟩ := hp
    exact ⟨hp, h⟩
  | .v i rest, 0, H, listed, S, K, hc, hre, h => ⟨fun hp => by simp [planOk] at hp, fun hp _ => by simp [planOk] at hp⟩
  | .v i rest, n + 1, H, listed, S, K, hc, hre, h => by
    refine ⟨fun hp => ?_, fun hp _ => by simp [planOk] at hp⟩
    simp only [planOk, Bool.true_and, Bool.and_eq_true, Nat.add_sub_cancel] at hp
    obtain ⟨⟨_, hv⟩, hp⟩ := hp
    obtain ⟨o, t, hi, ht, hV, hself, hH, hr, hfree⟩ := vOk_spec hv
    refine take_first hi ht hV hself n H listed S K hc hr hfree hH hre ?_
    simp only [planD] at h
    rw [stepD_stepV hi hV, ht] at h
    obtain ⟨v, h1, h2⟩ := stepV_det h
    refine h2 _ ((plan_ok rest n _ _ _ _ (hc.set hr) (fun x hx => ?_) h1).1 hp)
    rcases List.mem_cons.1 hx with rfl | hx
    · refine ⟨o, t, hi, ht, stepV_off hself (off_put t S v).symm (fun v' hv' => hv') (h2 _ ?_)⟩
      simp [St.put]
    · exact recheck_off (hH x hx) (off_put t S v).symm (hre x hx)
  | .x i re rest, 0, H, listed, S, K, hc, hre, h => ⟨fun hp => by simp [planOk] at hp, fun hp _ => by simp [planOk] at hp⟩
  | .x i re rest, n + 1, H, listed, S, K, hc, hre, h => by
    have key : i ∈ Region.ready .any ops listed → re = H.filter (fun x => !before ops x i) → planOk tb ops true n re (listed.setIfInBounds i true) rest = true → stepD P tb base ops i S fun S' =>
        ∃ H', (∀ x ∈ H', x ∈ H) ∧ (∀ x ∈ H, x ∈ H' ∨ before ops x i = true) ∧ (∀ x ∈ H', recheck tb ops x S') ∧ GD P tb base ops n H' (listed.setIfInBounds i true) S' K := fun hr h2 h3 => by
      simp only [planD] at h
      refine stepD_mono (fun S' h => ?_) h
      refine ⟨re, fun x hx => ?_, fun x hx => ?_, h.1, (plan_ok rest n _ _ _ _ (hc.set hr) h.1 h.2).1 h3⟩
      · rw [h2] at hx; exact (List.mem_filter.1 hx).1
      · rw [h2, List.mem_filter]
        cases hb : before ops x i <;> simp [hx]
    refine ⟨fun hp => ?_, fun hp hrd => ?_⟩
    · simp only [planOk, Bool.not_true, Bool.false_or, Bool.and_eq_true, beq_iff_eq, Nat.add_sub_cancel] at hp
      obtain ⟨⟨⟨h1, _⟩, h2⟩, h3⟩ := hp
      refine ⟨fun h0 => (by rw [h0] at h1; simp at h1), fun j hj => ?_⟩
      have hj' := hj
      rw [h1] at hj
      simp at hj; subst hj
      exact key hj' h2 h3
    · simp only [planOk, Bool.not_false, Bool.true_or, Bool.true_and, Bool.and_eq_true, beq_iff_eq, Nat.add_sub_cancel] at hp
      obtain ⟨⟨_, h2⟩, h3⟩ := hp
      refine ⟨n, rfl, fun j hj => ?_⟩
      have hj' := hrd j hj
      simp [PS.heads] at hj; subst hj
      exact key hj' h2 h3
  | .or a b, n, H, listed, S, K, hc, hre, h => by
    have key : (∀ j ∈ a.heads ++ b.heads, j ∈ Region.ready .any ops listed) → planOk tb ops false n H listed a = true → planOk tb ops false n H listed b = true → ∃ m, n = m + 1 ∧ ∀ j ∈ a.heads ++ b.heads, stepD P tb base ops j S fun S' =>
        ∃ H', (∀ i ∈ H', i ∈ H) ∧ (∀ i ∈ H, i ∈ H' ∨ before ops i j = true) ∧ (∀ i ∈ H', recheck tb ops i S') ∧ GD P tb base ops m H' (listed.setIfInBounds j true) S' K := fun hrd ha hb => by
      obtain ⟨m, rfl, h1⟩ := (plan_ok a n H listed S K hc hre h.1).2 ha fun j hj => hrd j (List.mem_append_left _ hj)
      obtain ⟨m', hm, h2⟩ := (plan_ok b _ H listed S K hc hre h.2).2 hb fun j hj => hrd j (List.mem_append_right _ hj)
      obtain rfl : m' = m := by omega
      exact ⟨m', rfl, fun j hj => (List.mem_append.1 hj).elim (h1 j) (h2 j)⟩
    refine ⟨fun hp => ?_, fun hp hrd => ?_⟩
    · simp only [planOk, Bool.not_true, Bool.false_or, Bool.and_eq_true, beq_iff_eq] at hp
      obtain ⟨⟨⟨h1, h0⟩, h2⟩, h3⟩ := hp
      obtain ⟨m, rfl, h4⟩ := key (fun j hj => by rw [h1]; exact hj) h2 h3
      refine ⟨fun h0 => ?_, fun j hj => h4 j (by rw [← h1]; exact hj)⟩
      have hne : ∀ (p : PS), planOk tb ops false (m + 1) H listed p = true → p.heads ≠ [] := by
        intro p
        induction p with
        | done => intro hp; simp [planOk] at hp
        | v i r _ => intro hp; simp [planOk] at hp
        | x i re r _ => intro _; simp [PS.heads]
        | or a b ih1 ih2 =>
          intro hp
          simp only [planOk, Bool.not_false, Bool.true_or, Bool.true_and, Bool.and_eq_true] at hp
          simp [PS.heads, ih1 hp.1.2]
      rw [h0] at h1
      have := (List.append_eq_nil_iff.1 h1.symm).1
      exact absurd this (hne a h2)
    · simp only [planOk, Bool.not_false, Bool.true_or, Bool.true_and, Bool.and_eq_true] at hp
      exact key hrd hp.1.2 hp.2
end

section
variable {P : Program} (tb : Tab P) {w0 : World} {M : Rows0} {N : Nat} {V0 : View} {S : St} {a : Act} {w : World}

theorem stepD_ok {ops : Array Oper} (hd : ∀ o ∈ ops, ∀ t, o.dst = some t → t < N) {base i : Nat} {Q : Exit → Act → World → Prop} {K : St → Prop} (hs : Sat w0 M N V0 S a w) (h : stepD P tb.tb base ops i S K) :
    wpOp P ops Q i (fun a' w' => ∃ S', K S' ∧ Sat w0 M N V0 S' a' w') a w := by
  unfold stepD at h
  split at h
  · rename_i o ho
    have hdo : ∀ t, o.dst = some t → t < N := hd o (Array.mem_of_getElem? ho)
    unfold wpOp
    simp only [ho]
    split at h
    · rename_i hg
      have : Region.wanted o (yielded ops a.tmps) = true := by simp [Region.wanted, hg]
      rw [if_pos this]
      exact .inl (opD_ok tb hs hdo h)
    · rename_i j want hg
      split at h
      · rename_i b hb
        unfold guardOf at hb
        split at hb
        · rename_i t ht
          split at hb
          · rename_i b' hb'
            simp at hb; subst hb
            have hsv : a.tmps.getD t undef = .bool b' := by
              obtain ⟨V, bs, _, _, hs1⟩ := hs
              have := hs1.tmps t; rw [hb'] at this; exact vr_sc this
            have hy : yielded ops a.tmps j = some b' := by
              unfold yielded
              rw [ht]
              have : a.tmps[t]? = some (.bool b') := by
                rw [Array.getD_eq_getD_getElem?] at hsv
                cases h5 : a.tmps[t]? with
                | none => rw [h5] at hsv; simp [undef] at hsv
                | some u => rw [h5] at hsv; simp at hsv; rw [hsv]
              simp [this]
            have hw : Region.wanted o (yielded ops a.tmps) = (some b' == some want) := by simp [Region.wanted, hg, hy]
            by_cases hbw : b' = want
            · subst hbw
              rw [if_pos (by rw [hw]; simp)]
              exact .inl (opD_ok tb hs hdo (h.1 rfl))
            · rw [if_neg (by rw [hw]; simp [hbw])]
              obtain ⟨V, bs, h0, h1, hs1⟩ := hs
              exact ⟨_, h.2 hbw, V, bs, h0, h1, hs1.put hdo skipped⟩
          · rename_i hb'
            simp at hb; subst hb
            have hsv : a.tmps.getD t undef = undef := by
              obtain ⟨V, bs, _, _, hs1⟩ := hs
              have := hs1.tmps t; rw [hb'] at this; exact vr_skip this
            have hw : Region.wanted o (yielded ops a.tmps) = false := by simp [Region.wanted, hg, yielded_skip ht hsv]
            rw [if_neg (by rw [hw]; simp)]
            obtain ⟨V, bs, h0, h1, hs1⟩ := hs
            exact ⟨_, h.2 (by simp), V, bs, h0, h1, hs1.put hdo skipped⟩
          · simp at hb
        · simp at hb
      · exact h.elim
  · exact h.elim

theorem GD_ok {ops : Array Oper} (hd : ∀ o ∈ ops, ∀ t, o.dst = some t → t < N) {base : Nat} {Q : Exit → Act → World → Prop} {K : St → Prop} (hQ : ∀ S a w, K S → Sat w0 M N V0 S a w → Q .normal a w) :
    ∀ (n : Nat) (H : List Nat) (listed : Array Bool) (S : St) (a : Act) (w : World), Sat w0 M N V0 S a w → GD P tb.tb base ops n H listed S K → wpAny P .any ops Q n listed a w
  | 0, _, _, S, a, w, hs, h => ⟨h.1, hQ S a w h.2 hs⟩
  | n + 1, H, listed, S, a, w, hs, h => by
    refine ⟨fun h0 => hQ S a w (h.1 h0) hs, fun i hi => wpOp_mono ?_ (stepD_ok tb hd hs (h.2 i hi))⟩
    rintro a' w' ⟨S', ⟨H', _, _, _, h1⟩, h2⟩
    exact GD_ok hd hQ n H' _ S' a' w' h2 h1

/-- A region that draws its order. -/
theorem drawn_ok (hm : P.follows .mixedOrders = true) {id : Nat} {ops : Array Oper} (hd : ∀ o ∈ ops, ∀ t, o.dst = some t → t < N) {base : Nat} {Q : Exit → Act → World → Prop} {K : St → Prop}
    (hQ : ∀ S a w, K S → Sat w0 M N V0 S a w → Q .normal a w) (plan : PS) (hp : planOk tb.tb ops true ops.size [] (Array.replicate ops.size false) plan = true) (hs : Sat w0 M N V0 S a w) (h : planD P tb.tb base ops plan S K) :
    (Code.region id ops true).wp P Q a w := by
  refine wp_region_any hm ?_
  refine GD_ok (base := base) (K := K) tb hd hQ _ [] _ S _ _ ?_ ((plan_ok plan _ _ _ _ _ (fun k hk => by simp [Array.getD_eq_getD_getElem?, Array.getElem?_replicate] at hk; split at hk <;> simp at hk) (by simp) h).1 hp)
  obtain ⟨V, bs, h0, h1, hs1⟩ := hs
  exact ⟨V, bs, h0, h1, hs1.drew _⟩
end
end Go.Proofs.Ytoklfidamhigcaa.D
