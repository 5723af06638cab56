/- The steps of a run, in the form that is gone through by reduction: memory and calls. -/
import Derived.Test.YtoklfidamhigcaaEA
namespace Go.Proofs.Ytoklfidamhigcaa.D
open Go.RowKit
set_option linter.unusedVariables false

/-- A contract that is to be named. -/
inductive CallW (P : Program) (f : FuncId) (args : List SV) (Li : List Row) (bor : Bool) (K : List Nat → SV → List Row → Prop) : Prop
  | mk (mv : List Nat) (cl : Bool) (Post : SV → List Row → Prop) (h : CallM P f args Li mv cl Post) (hcl : bor = true → cl = true) (k : ∀ res Lo, Post res Lo → K mv res Lo)
theorem CallW.d {P : Program} {f : FuncId} {args : List SV} {Li Lo : List Row} {bor : Bool} {res : SV} {K : List Nat → SV → List Row → Prop} (h : CallD P f args Li res Lo) (k : K [] res Lo) : CallW P f args Li bor K :=
  ⟨_, _, _, h, fun _ => rfl, fun _ _ h => by obtain ⟨rfl, rfl⟩ := h; exact k⟩
theorem CallW.r {P : Program} {f : FuncId} {args : List SV} {Li : List Row} {mv : List Nat} {bor : Bool} {Post : SV → List Row → Prop} {K : List Nat → SV → List Row → Prop} (h : CallM P f args Li mv true Post) (k : ∀ res Lo, Post res Lo → K mv res Lo) : CallW P f args Li bor K :=
  ⟨_, _, _, h, fun _ => rfl, k⟩
/-- .. of a contract that is not said to give back new memory alone: nothing may have been lent. -/
theorem CallW.n {P : Program} {f : FuncId} {args : List SV} {Li : List Row} {mv : List Nat} {cl : Bool} {Post : SV → List Row → Prop} {K : List Nat → SV → List Row → Prop} (h : CallM P f args Li mv cl Post) (k : ∀ res Lo, Post res Lo → K mv res Lo) : CallW P f args Li false K :=
  ⟨_, _, _, h, fun h => by simp at h, k⟩
/-- .. just this, where rows may lie elsewhere behind it. -/
abbrev CallMD (P : Program) (f : FuncId) (args : List SV) (Li : List Row) (mv : List Nat) (res : SV) (Lo : List Row) : Prop := CallM P f args Li mv true fun r l => r = res ∧ l = Lo
theorem CallW.m {P : Program} {f : FuncId} {args : List SV} {Li Lo : List Row} {mv : List Nat} {bor : Bool} {res : SV} {K : List Nat → SV → List Row → Prop} (h : CallMD P f args Li mv res Lo) (k : K mv res Lo) : CallW P f args Li bor K :=
  ⟨_, _, _, h, fun _ => rfl, fun _ _ h => by obtain ⟨rfl, rfl⟩ := h; exact k⟩
/-- Which arguments' own slices are handed on. -/
inductive Hand (X : List Nat → Prop) : Prop
  | mk (own : List Nat) (h : X own)

section
variable {P : Program} {tb : TypeId → Option TyI} {S : St}

def fresh (S : St) (nm : Nat) : Bool := (match S.L nm with | none => true | some _ => false) && Nat.ble 1000 nm
theorem fresh_iff {nm : Nat} (h : fresh S nm = true) : S.L nm = none ∧ 1000 ≤ nm := by
  simp only [fresh, Bool.and_eq_true] at h
  refine ⟨?_, Nat.le_of_ble_eq_true h.2⟩
  cases hL : S.L nm with
  | none => rfl
  | some r => rw [hL] at h; simp at h
def deepE (ks : List Nat) (S : St) : List CV → (St → List DV → Prop) → Prop
  | [], K => K S []
  | c :: cs, K =>
    match killAll ks c with
    | .dv d => deepE ks S cs fun S' ds => K S' (d :: ds)
    | .nil => deepE ks S cs fun S' ds => K S' (.sl [] :: ds)
    | .os p k off len =>
      (match S.L p with
      | some (.own k' es) => chk (Nat.beq k k' && Nat.ble 1000 p) (Pick (SlOf es off len) fun xs => deepE (ks ++ [p]) (S.frz p) cs fun S' ds => K S' (.sl xs :: ds))
      | _ => False)
    | _ => False
theorem killAll_snoc (ks : List Nat) (p : Nat) (c : CV) : killAll (ks ++ [p]) c = killC p (killAll ks c) := by
  induction ks generalizing c with
  | nil => rfl
  | cons k ks ih => exact ih _
theorem deepE_ok : ∀ (cs : List CV) (ks : List Nat) (S : St) {K K' : St → List DV → Prop}, (∀ T ds, K T ds → K' T ds) → deepE ks S cs K → deepCells S (cs.map (killAll ks)) K'
  | [], ks, S, K, K', hk, h => by simp only [List.map_nil, deepCells]; exact hk _ _ h
  | c :: cs, ks, S, K, K', hk, h => by
    unfold deepE at h
    rw [List.map_cons]
    unfold deepCells
    split at h
    · rename_i e; simp only [e]; exact deepE_ok cs ks S (fun _ _ h => hk _ _ h) h
    · rename_i e; simp only [e]; exact deepE_ok cs ks S (fun _ _ h => hk _ _ h) h
    · rename_i p k off len e; simp only [e]
      split at h
      · rename_i e2; simp only [e2]
        obtain ⟨h1, xs, ⟨h2, h3⟩, h4⟩ := chk_iff.1 h
        simp only [Bool.and_eq_true] at h1
        refine ⟨⟨Nat.eq_of_beq_eq_true h1.1, h2, Nat.le_of_ble_eq_true h1.2⟩, ?_⟩
        have := deepE_ok cs _ _ (K' := fun S' ds => K' S' (.sl xs :: ds)) (fun _ _ h => hk _ _ h) h4
        rw [h3]
        rw [List.map_map]
        have e3 : (killC p ∘ killAll ks) = killAll (ks ++ [p]) := by funext c; exact (killAll_snoc ks _ c).symm
        rw [e3]; exact this
      · exact h.elim
    · exact h.elim
theorem deepE_ok' {cs : List CV} {S : St} {K K' : St → List DV → Prop} (hk : ∀ T ds, K T ds → K' T ds) (h : deepE [] S cs K) : deepCells S cs K' := by
  have := deepE_ok cs [] S hk h
  have e : cs.map (killAll []) = cs := by
    have : killAll [] = id := by funext c; rfl
    rw [this, List.map_id]
  rwa [e] at this
def srcE (S : St) (size : Nat) (v : SV) (K : List (List DV) → Prop) : Prop :=
  match v with
  | .one .nil => K []
  | .one (.dv (.sl es)) => Need (∀ e ∈ es, e.length = size) (K es)
  | .one (.os p k off len) => (match S.L p with | some (.own k' es) => chk (Nat.beq k k' && Nat.beq k size) (Pick (SlOf es off len) K) | _ => False)
  | .one (.dv (.sc (.string s))) => chk (Nat.beq size 1) (K (s.data.toList.map fun b => [.sc (.int .u8 b.toNat)]))
  | _ => False
theorem srcE_ok {size : Nat} {v : SV} {K K' : List (List DV) → Prop} (hk : ∀ es, K es → K' es) (h : srcE S size v K) : srcD S size v K' := by
  unfold srcE at h; unfold srcD
  split at h
  · exact hk _ h
  · exact ⟨h.1, hk _ h.2⟩
  · split at h
    · rename_i e; simp only [e]
      obtain ⟨h1, xs, ⟨h2, h3⟩, h4⟩ := chk_iff.1 h
      simp only [Bool.and_eq_true] at h1
      subst h3
      exact ⟨⟨Nat.eq_of_beq_eq_true h1.1, Nat.eq_of_beq_eq_true h1.2, h2⟩, hk _ h4⟩
    · exact h.elim
  · obtain ⟨h1, h2⟩ := chk_iff.1 h
    exact ⟨Nat.eq_of_beq_eq_true h1, hk _ h2⟩
  · exact h.elim
/-- An element's cells, some of them exchanged. -/
def splice (old : List DV) (f : Nat) (ds : List DV) : List DV := old.take f ++ ds ++ old.drop (f + ds.length)
def storeE (S : St) (c : CV) (cs : List CV) (K : St → Prop) : Prop :=
  match c with
  | .ptr p off => (match S.L p with | some (.box old) => chk (Nat.ble (off + cs.length) old.length) (fCs (old.take off ++ cs ++ old.drop (off + cs.length)) fun cells => K (S.new p (.box cells))) | _ => False)
  | .ep p k i f => deepE [] S cs fun S' ds =>
      (match S'.L p with
      | some (.own k' es) => chk (Nat.beq k k' && Nat.ble (f + ds.length) k) (Pick (fun old => es[i]? = some old) fun old => Pick (fun es' => es.set i (splice old f ds) = es') fun es' => K (S'.new p (.own k es')))
      | _ => False)
  | _ => False
theorem storeE_ok {c : CV} {cs : List CV} {K K' : St → Prop} (hk : ∀ T, K T → K' T) (h : storeE S c cs K) : storeD S c cs K' := by
  unfold storeE at h; unfold storeD
  split at h
  · split at h
    · rename_i e; simp only [e]
      obtain ⟨h1, h2⟩ := chk_iff.1 h
      exact ⟨Nat.le_of_ble_eq_true h1, hk _ (fCs_iff.1 h2)⟩
    · exact h.elim
  · refine deepE_ok' (fun T ds h => ?_) h
    split at h
    · rename_i e; simp only [e]
      obtain ⟨h1, old, h2, _, rfl, h3⟩ := chk_iff.1 h
      simp only [Bool.and_eq_true] at h1
      refine ⟨⟨Nat.eq_of_beq_eq_true h1.1, (List.getElem?_eq_some_iff.1 h2).1, Nat.le_of_ble_eq_true h1.2⟩, ?_⟩
      simp only [List.getD, h2, Option.getD_some]
      exact hk _ h3
    · exact h.elim
  · exact h.elim
def appE (tb : TypeId → Option TyI) (nm : Nat) (S : St) (dst : Option Tmp) (s x : Operand) (t t' : TypeId) (K : St → Prop) : Prop :=
  match tb t with
  | some { kind := .slice e, .. } =>
    (match tb e, tb t' with
    | some { size := sz, bytes := bt, zero := z, .. }, some i' => chk (i'.kind.seq && !z.isEmpty)
      (match S.ev s with
      | .one .nil => chk (fresh S nm) (srcE S sz (S.ev x) fun news => Pick (fun n : Nat => news.length = n) fun n =>
          Need ((2 * n + 1024) * bt ≤ 2 ^ 48 ∧ n ≤ 2 ^ 48) (fN nm fun nm => K ((S.new nm (.own sz news)).put dst (.one (.os nm sz 0 n)))))
      | .one (.os p k 0 len) =>
        (match S.L p with
        | some (.own k' es) => chk (Nat.beq k sz && Nat.beq k' k) (Pick (SlOf es 0 len) fun old => srcE S sz (S.ev x) fun news => Pick (fun n : Nat => len + news.length = n) fun n =>
          Need ((2 * n + 1024) * bt ≤ 2 ^ 48 ∧ n ≤ 2 ^ 48) (Pick (fun es => old ++ news = es) fun es => K ((((S.kill p).new p (.own k es)).mov p).put dst (.one (.os p k 0 n)))))
        | _ => False)
      | .one (.sb p o k n) =>
        (match S.L p with
        | some (.box cs) => (match cvDs ((cs.drop o).take (n * k)) with
          | some ds => chk ((Nat.beq k sz && Nat.beq ds.length (n * k)) && fresh S nm) (srcE S sz (S.ev x) fun news => Pick (fun m : Nat => news.length = m) fun m =>
            Need (0 < m ∧ (2 * (n + m) + 1024) * bt ≤ 2 ^ 48 ∧ n + m ≤ 2 ^ 48) (Pick (fun es => chunks k n ds ++ news = es) fun es => Pick (fun q => n + m = q) fun q => fN nm fun nm => K ((S.new nm (.own k es)).put dst (.one (.os nm k 0 q)))))
          | none => False)
        | _ => False)
      | _ => False)
    | _, _ => False)
  | _ => False
theorem appE_ok {nm : Nat} {dst : Option Tmp} {s x : Operand} {t t' : TypeId} {K K' : St → Prop} (hk : ∀ T, K T → K' T) (h : appE tb nm S dst s x t t' K) : appD tb nm S dst s x t t' K' := by
  unfold appE at h; unfold appD
  split at h
  · rename_i e1; simp only [e1]
    split at h
    · rename_i e2 e3; simp only [e2, e3]
      obtain ⟨h1, h⟩ := chk_iff.1 h
      simp only [Bool.and_eq_true, Bool.not_eq_true', List.isEmpty_eq_false_iff] at h1
      refine ⟨h1, ?_⟩
      split at h
      · rename_i e4; simp only [e4]
        obtain ⟨h2, h⟩ := chk_iff.1 h
        exact ⟨fresh_iff h2, srcE_ok (fun es h => by obtain ⟨n, g1, g2⟩ := h; subst g1; exact ⟨g2.1, hk _ (fN_iff.1 g2.2)⟩) h⟩
      · rename_i e4; simp only [e4]
        split at h
        · rename_i e5; simp only [e5]
          obtain ⟨h2, old, ⟨h3, h4⟩, h⟩ := chk_iff.1 h
          simp only [Bool.and_eq_true] at h2
          simp only [List.drop_zero] at h4
          subst h4
          exact ⟨⟨Nat.eq_of_beq_eq_true h2.1, Nat.eq_of_beq_eq_true h2.2, by omega⟩, srcE_ok (fun es h => by obtain ⟨n, g1, g2, es, g3, g4⟩ := h; subst g1; subst g3; exact ⟨g2, hk _ g4⟩) h⟩
        · exact h.elim
      · rename_i e4; simp only [e4]
        split at h
        · rename_i e5; simp only [e5]
          split at h
          · rename_i e6; simp only [e6]
            obtain ⟨h2, h⟩ := chk_iff.1 h
            simp only [Bool.and_eq_true] at h2
            exact ⟨⟨Nat.eq_of_beq_eq_true h2.1.1, Nat.eq_of_beq_eq_true h2.1.2, fresh_iff h2.2⟩, srcE_ok (fun es h => by obtain ⟨m, g1, g2, es, g3, q, g4, g5⟩ := h; subst g1; subst g3; subst g4; exact ⟨g2, hk _ (fN_iff.1 g5)⟩) h⟩
          · exact h.elim
        · exact h.elim
      · exact h.elim
    · exact h.elim
  · exact h.elim

def nodupB : List Nat → Bool
  | [] => true
  | x :: xs => !(xs.any fun y => Nat.beq x y) && nodupB xs
theorem nodupB_ok : ∀ {xs : List Nat}, nodupB xs = true → xs.Nodup
  | [], _ => by simp
  | x :: xs, h => by
    simp only [nodupB, Bool.and_eq_true, Bool.not_eq_true'] at h
    refine List.nodup_cons.2 ⟨fun hm => ?_, nodupB_ok h.2⟩
    have := List.any_eq_false.1 h.1 x hm
    simp at this
def addNew (xs : List Nat) (x : Nat) : List Nat := match xs.any (fun y => Nat.beq x y) with | true => xs | false => xs ++ [x]
def boxNames (S : St) (p : Nat) : List Nat := match S.L p with
  | some (.box cs) => cs.foldr (fun c r => match c with | .os q _ _ _ => q :: r | .ptr q _ => q :: r | .ep q _ _ _ => q :: r | _ => r) []
  | _ => []
def cellNames (S : St) (ow : Bool) (c : CV) : List Nat := match c with
  | .ptr p _ => p :: boxNames S p
  | .ep p _ _ _ => [p]
  | .os p _ _ _ => (match ow with | true => [p] | false => [])
  | _ => []
def psOf (S : St) (own : List Nat) : Nat → List SV → List Nat
  | _, [] => []
  | i, v :: vs =>
    let ow := own.any fun j => Nat.beq i j
    (match v with
    | .one c => cellNames S ow c
    | .agg cs => cs.foldr (fun c r => cellNames S ow c ++ r) []
    | .tup _ => []) ++ psOf S own (i + 1) vs
def uniq (xs : List Nat) : List Nat := xs.foldl addNew []

def argCE (bor : Bool) (S : St) (ps : List Nat) (c : CV) (K : CV → Prop) : Prop :=
  match c with
  | .dv d => K (.dv d)
  | .nil => K .nil
  | .dp cs f => K (.dp cs f)
  | .ptr p o => (match idxOf p ps with | some i => K (.ptr i o) | none => False)
  | .ep p k i f => (match idxOf p ps with | some j => K (.ep j k i f) | none => False)
  | .os p k off len => (match idxOf p ps with
    | some i => K (.os i k off len)
    | none => (match S.L p with | some (.own k' es) => chk (bor && Nat.beq k k') (Pick (SlOf es off len) fun xs => K (.dv (.sl xs))) | _ => False))
  | .sb .. => False
  | .dead => K .dead
theorem argCE_ok {bor : Bool} {ps : List Nat} {c : CV} {K K' : CV → Prop} (hk : ∀ x, K x → K' x) (h : argCE bor S ps c K) : argC bor S ps c K' := by
  unfold argCE at h; unfold argC
  split at h
  · exact hk _ h
  · exact hk _ h
  · exact hk _ h
  · split at h
    · rename_i e; simp only [e]; exact hk _ h
    · exact h.elim
  · split at h
    · rename_i e; simp only [e]; exact hk _ h
    · exact h.elim
  · split at h
    · rename_i e; simp only [e]; exact hk _ h
    · rename_i e0; simp only [e0]
      split at h
      · rename_i e; simp only [e]
        obtain ⟨h1, xs, ⟨h2, h3⟩, h⟩ := chk_iff.1 h
        simp only [Bool.and_eq_true] at h1
        subst h3
        exact ⟨⟨h1.1, Nat.eq_of_beq_eq_true h1.2, h2⟩, hk _ h⟩
      · exact h.elim
  · exact h.elim
  · exact hk _ h
def argCsE (bor : Bool) (S : St) (ps : List Nat) : List CV → (List CV → Prop) → Prop
  | [], K => K []
  | c :: cs, K => argCE bor S ps c fun c' => argCsE bor S ps cs fun cs' => K (c' :: cs')
theorem argCsE_ok {bor : Bool} {ps : List Nat} : ∀ {cs : List CV} {K K' : List CV → Prop}, (∀ x, K x → K' x) → argCsE bor S ps cs K → argCs bor S ps cs K'
  | [], _, _, hk, h => hk _ h
  | c :: cs, K, K', hk, h => argCE_ok (fun _ h => argCsE_ok (fun _ h => hk _ h) h) h
def argSE (bor : Bool) (S : St) (ps : List Nat) (v : SV) (K : SV → Prop) : Prop :=
  match v with
  | .one c => argCE bor S ps c fun c' => K (.one c')
  | .agg cs => argCsE bor S ps cs fun cs' => K (.agg cs')
  | .tup _ => False
theorem argSE_ok {bor : Bool} {ps : List Nat} {v : SV} {K K' : SV → Prop} (hk : ∀ x, K x → K' x) (h : argSE bor S ps v K) : argS bor S ps v K' := by
  unfold argSE at h; unfold argS
  split at h
  · exact argCE_ok (fun _ h => hk _ h) h
  · exact argCsE_ok (fun _ h => hk _ h) h
  · exact h.elim
def argSsE (bor : Bool) (S : St) (ps : List Nat) : List SV → (List SV → Prop) → Prop
  | [], K => K []
  | v :: vs, K => argSE bor S ps v fun v' => argSsE bor S ps vs fun vs' => K (v' :: vs')
theorem argSsE_ok {bor : Bool} {ps : List Nat} : ∀ {vs : List SV} {K K' : List SV → Prop}, (∀ x, K x → K' x) → argSsE bor S ps vs K → argSs bor S ps vs K'
  | [], _, _, hk, h => hk _ h
  | v :: vs, K, K', hk, h => argSE_ok (fun _ h => argSsE_ok (fun _ h => hk _ h) h) h
def rowsE (bor : Bool) (S : St) (ps0 : List Nat) : List Nat → (List Row → Prop) → Prop
  | [], K => K []
  | p :: ps, K =>
    match S.L p with
    | some (.own k es) => rowsE bor S ps0 ps fun rs => K (.own k es :: rs)
    | some (.box cs) => argCsE bor S ps0 cs fun cs' => rowsE bor S ps0 ps fun rs => K (.box cs' :: rs)
    | none => False
theorem rowsE_ok {bor : Bool} {ps0 : List Nat} : ∀ {ps : List Nat} {K K' : List Row → Prop}, (∀ x, K x → K' x) → rowsE bor S ps0 ps K → rowsD bor S ps0 ps K'
  | [], _, _, hk, h => hk _ h
  | p :: ps, K, K', hk, h => by
    unfold rowsE at h; unfold rowsD
    split at h
    · rename_i e; simp only [e]; exact rowsE_ok (fun _ h => hk _ h) h
    · rename_i e; simp only [e]; exact argCsE_ok (fun _ h => rowsE_ok (fun _ h => hk _ h) h) h
    · exact h.elim
/-- Own slices that are handed on nowhere: they are read. -/
def borC (ps : List Nat) : CV → Bool | .os p _ _ _ => !(ps.any fun q => Nat.beq p q) | _ => false
def borS (ps : List Nat) : SV → Bool | .one c => borC ps c | .agg cs => cs.any (borC ps) | .tup _ => false
def freshN (S : St) (nm : Nat) : Nat → Bool
  | 0 => true
  | n + 1 => (match S.L (nm + n) with | none => true | some _ => false) && freshN S nm n
theorem freshN_ok {nm : Nat} : ∀ {n : Nat}, freshN S nm n = true → ∀ j, j < n → S.L (nm + j) = none
  | 0, _, j, hj => by omega
  | n + 1, h, j, hj => by
    simp only [freshN, Bool.and_eq_true] at h
    rcases Nat.lt_or_ge j n with h1 | h1
    · exact freshN_ok h.2 j h1
    · obtain rfl : j = n := by omega
      cases hL : S.L (nm + j) with
      | none => rfl
      | some r => rw [hL] at h; simp at h
def backE (ps : List Nat) (nm : Nat) : Nat → List Row → (Nat → Option Row) → ((Nat → Option Row) → Prop) → Prop
  | _, [], L, K => K L
  | i, .own k es :: rs, L, K => fN (backN ps nm i) fun q => backE ps nm (i + 1) rs (upd L q (some (.own k es))) K
  | i, .box cs :: rs, L, K => fN (backN ps nm i) fun q => fCs (cs.map (backC ps nm)) fun cs => backE ps nm (i + 1) rs (upd L q (some (.box cs))) K
theorem backE_iff {ps : List Nat} {nm : Nat} : ∀ {rs : List Row} {i : Nat} {L : Nat → Option Row} {K : (Nat → Option Row) → Prop}, backE ps nm i rs L K ↔ K (setRows ps nm i rs L)
  | [], _, _, _ => Iff.rfl
  | .own k es :: rs, i, L, K => by simp only [backE, setRows, mapR, fN_iff, backE_iff]
  | .box cs :: rs, i, L, K => by simp only [backE, setRows, mapR, fN_iff, fCs_iff, backE_iff]
theorem mapS_id (v : SV) : mapS (killAll []) v = v := by
  have e : killAll [] = id := by funext c; rfl
  cases v with
  | one c => rfl
  | agg cs => simp [mapS, e]
  | tup vs => simp [mapS, e]
theorem mapR_id (r : Row) : mapR (killAll []) r = r := by
  have e : killAll [] = id := by funext c; rfl
  cases r with
  | box cs => simp [mapR, e]
  | own k es => rfl
def afterE (S : St) (ps : List Nat) (nm : Nat) (mv : List Nat) (Lo : List Row) (K : St → Prop) : Prop :=
  match mv with
  | [] => backE ps nm 0 Lo S.L fun L => K ⟨S.T, L, S.mv⟩
  | m :: ms => backE ps nm 0 Lo (fun q => (S.L q).map (mapR (killAll (movN ps (m :: ms))))) fun L => K ⟨fun t => mapS (killAll (movN ps (m :: ms))) (S.T t), L, movN ps (m :: ms) ++ S.mv⟩
theorem afterE_iff {ps : List Nat} {nm : Nat} {mv : List Nat} {Lo : List Row} {K : St → Prop} : afterE S ps nm mv Lo K ↔ K (S.after ps nm mv Lo) := by
  cases mv with
  | nil =>
    simp only [afterE, backE_iff]
    have e1 : (fun t => mapS (killAll (movN ps [])) (S.T t)) = S.T := by funext t; exact mapS_id _
    have e2 : (fun q => (S.L q).map (mapR (killAll (movN ps [])))) = S.L := by
      funext q
      cases S.L q with
      | none => rfl
      | some r => exact congrArg some (mapR_id r)
    simp only [St.after, e1, e2]
    exact Iff.rfl
  | cons m ms => simp only [afterE, backE_iff]; exact Iff.rfl
def callE (P : Program) (nm : Nat) (S : St) (dst : Option Tmp) (fv : SV) (args : List SV) (K : St → Prop) : Prop :=
  match fv with
  | .one (.dv (.sc (.func (.func f) u v))) => chk (u.isEmpty && v.isEmpty) (Hand fun own =>
    fNs (uniq (psOf S own 0 args)) (fun ps => (fun bor => chk (nodupB ps && Nat.ble ps.length 1000 && Nat.ble 1000 nm) (argSsE bor S ps args fun args' => rowsE bor S ps ps fun Li => CallW P f args' Li bor fun mv res Lo =>
      chk (freshN S nm (Lo.length - ps.length)) (afterE S ps nm mv Lo fun S1 => putE S1 dst (mapS (backC ps nm) res) K))) (args.any (borS ps))))
  | _ => False
theorem callE_ok {nm : Nat} {dst : Option Tmp} {fv : SV} {args : List SV} {K K' : St → Prop} (hk : ∀ T, K T → K' T) (h : callE P nm S dst fv args K) : callD P nm S dst fv args K' := by
  unfold callE at h
  split at h
  · rename_i f u v
    obtain ⟨h1, own, h'⟩ := chk_iff.1 h
    clear h
    simp only [Bool.and_eq_true, Array.isEmpty_iff] at h1
    obtain ⟨rfl, rfl⟩ := h1
    have h' := fNs_iff.1 h'
    simp only at h'
    generalize uniq (psOf S own 0 args) = ps at h'
    generalize args.any (borS ps) = bor at h'
    obtain ⟨h2, h⟩ := chk_iff.1 h'
    simp only [Bool.and_eq_true] at h2
    refine ⟨ps, bor, f, rfl, ⟨nodupB_ok h2.1.1, Nat.le_of_ble_eq_true h2.1.2, Nat.le_of_ble_eq_true h2.2⟩, argSsE_ok (fun args' h => rowsE_ok (fun Li h => ?_) h) h⟩
    obtain ⟨mv, cl, Post, hc, hcl, h⟩ := h
    refine ⟨mv, cl, Post, hc, hcl, fun res Lo hp => ?_⟩
    obtain ⟨h3, h4⟩ := chk_iff.1 (h res Lo hp)
    exact ⟨freshN_ok h3, hk _ (putE_iff.1 (afterE_iff.1 h4))⟩
  · exact h.elim

def opE (P : Program) (tb : TypeId → Option TyI) (nm : Nat) (S : St) (op : Op) (dst : Option Tmp) (K : St → Prop) : Prop :=
  match op with
  | .box _ x => (match (S.ev x).cells? with | some cs => chk (fresh S nm) (fCs cs fun cs => fN nm fun nm => K ((S.new nm (.box cs)).put dst (.one (.ptr nm 0)))) | none => False)
  | .alloc t => (match tb t with | some { zero := z, .. } => chk (!z.isEmpty && fresh S nm) (fCs (z.map Z.cv) fun cs => fN nm fun nm => K ((S.new nm (.box cs)).put dst (.one (.ptr nm 0)))) | none => False)
  | .store t x v =>
    (match tb t, S.ev x, (S.ev v).cells? with
    | some i, .one c, some cs => chk (Nat.beq cs.length i.size && cs.all cellOk) (storeE S c cs fun S' => K (S'.put dst (.one .dead)))
    | _, _, _ => False)
  | .buildSlice t len parts =>
    (match tb t with
    | some { kind := .slice e, .. } =>
      (match tb e with
      | some { size := sz, zero := z, .. } => chk (!z.isEmpty && fresh S nm && Nat.ble (len * sz) 16777216)
        (match fillC (fun j => some (j * sz, sz)) (List.replicate len (z.map Z.cv)).flatten (parts.toList.map fun p => (p.1, S.ev p.2)) with
        | some cs => deepE [] S cs fun S' ds => fN nm fun nm => Pick (fun es => chunks sz len ds = es) fun es => K ((S'.new nm (.own sz es)).put dst (.one (.os nm sz 0 len)))
        | none => False)
      | none => False)
    | _ => False)
  | .makeSlice t l c =>
    (match tb t with
    | some { kind := .slice e, .. } =>
      (match tb e with
      | some { size := sz, bytes := bt, zero := z, .. } => mapInt S l fun _ l => mapInt S c fun _ c => chk (!z.isEmpty && fresh S nm) (Need (0 ≤ l ∧ l ≤ c ∧ c ≤ 2 ^ 40 ∧ bt * c ≤ 2 ^ 48)
          (fN nm fun nm => Pick (fun m : Nat => l = (m : Int)) fun m => Pick (fun es => List.replicate m (zerosD z) = es) fun es => K ((S.new nm (.own sz es)).put dst (.one (.os nm sz 0 m)))))
      | none => False)
    | _ => False)
  | .call c =>
    (match c.callee with
    | .value fo => callE P nm S dst (S.ev fo) (c.args.toList.map S.ev) K
    | .builtin .append => (match c.args.toList, c.argTypes.toList with | [s, x], [t, t'] => appE tb nm S dst s x t t' K | _, _ => False)
    | .builtin .len => valE tb S op fun v => putE S dst v K
    | .builtin .max => valE tb S op fun v => putE S dst v K
    | .builtin .min => valE tb S op fun v => putE S dst v K
    | _ => False)
  | .convert src dstT x =>
    (match tb src, tb dstT with
    | some { kind := .string, .. }, some { kind := .slice e, .. } =>
      (match S.ev x with
      | .one (.dv (.sc (.string s))) => (match tb e with
        | some { kind := .int .u8, .. } => chk (fresh S nm) (fN nm fun nm => K ((S.new nm (.own 1 (s.data.toList.map fun b => [.sc (.int .u8 b.toNat)]))).put dst (.one (.os nm 1 0 s.size))))
        | _ => False)
      | _ => False)
    | some _, some _ => valE tb S op fun v => putE S dst v K
    | _, _ => False)
  | op => chk (isV tb op) (valE tb S op fun v => putE S dst v K)

theorem opE_ok {nm : Nat} {op : Op} {dst : Option Tmp} {K K' : St → Prop} (hk : ∀ T, K T → K' T) (h : opE P tb nm S op dst K) : opD P tb nm S op dst K' := by
  have val : ∀ {op : Op}, isV tb op = true → valE tb S op (fun v => putE S dst v K) → opD P tb nm S op dst K' := fun hv h => (opD_valX hv).2 (valE_ok (fun v h => hk _ (putE_iff.1 h)) h)
  cases op with
  | box t x =>
    simp only [opE] at h; simp only [opD, memD]
    split at h
    · rename_i e; simp only [e]
      obtain ⟨h1, h2⟩ := chk_iff.1 h
      exact ⟨fresh_iff h1, hk _ (fN_iff.1 (fCs_iff.1 h2))⟩
    · exact h.elim
  | alloc t =>
    simp only [opE] at h; simp only [opD, memD]
    split at h
    · rename_i e; simp only [e]
      obtain ⟨h1, h2⟩ := chk_iff.1 h
      simp only [Bool.and_eq_true, Bool.not_eq_true', List.isEmpty_eq_false_iff] at h1
      exact ⟨⟨h1.1, fresh_iff h1.2⟩, hk _ (fN_iff.1 (fCs_iff.1 h2))⟩
    · exact h.elim
  | store t x v =>
    simp only [opE] at h; simp only [opD, memD]
    split at h
    · rename_i e1 e2 e3; simp only [e1, e2, e3]
      obtain ⟨h1, h2⟩ := chk_iff.1 h
      simp only [Bool.and_eq_true] at h1
      exact ⟨⟨Nat.eq_of_beq_eq_true h1.1, h1.2⟩, storeE_ok (fun T h => hk _ h) h2⟩
    · exact h.elim
  | buildSlice t len parts =>
    simp only [opE] at h; simp only [opD, memD]
    split at h
    · rename_i e1; simp only [e1]
      split at h
      · rename_i e2; simp only [e2]
        obtain ⟨h1, h⟩ := chk_iff.1 h
        simp only [Bool.and_eq_true, Bool.not_eq_true', List.isEmpty_eq_false_iff] at h1
        obtain ⟨⟨h1, h2⟩, h3⟩ := h1
        refine ⟨⟨h1, (fresh_iff h2).1, (fresh_iff h2).2, Nat.le_of_ble_eq_true h3⟩, ?_⟩
        split at h
        · rename_i e3; simp only [e3]; exact deepE_ok' (fun T ds h => by obtain ⟨es, g1, g2⟩ := fN_iff.1 h; subst g1; exact hk _ g2) h
        · exact h.elim
      · exact h.elim
    · exact h.elim
  | makeSlice t l c =>
    simp only [opE] at h; simp only [opD, memD]
    split at h
    · rename_i e1; simp only [e1]
      split at h
      · rename_i e2; simp only [e2]
        refine mapInt_mono (fun _ l h => mapInt_mono (fun _ c h => ?_) h) h
        obtain ⟨h1, h⟩ := chk_iff.1 h
        simp only [Bool.and_eq_true, Bool.not_eq_true', List.isEmpty_eq_false_iff] at h1
        exact ⟨⟨h1.1, (fresh_iff h1.2).1, (fresh_iff h1.2).2, h.1⟩, by obtain ⟨m, g1, es, g2, g3⟩ := fN_iff.1 h.2; subst g1; subst g2; exact hk _ (by simpa using g3)⟩
      · exact h.elim
    · exact h.elim
  | call c =>
    simp only [opE] at h
    split at h
    · rename_i e; simp only [opD, e]; exact callE_ok hk h
    · rename_i e
      split at h
      · rename_i e1 e2
        simp only [opD, e, memD, e1, e2]
        exact appE_ok hk h
      · exact h.elim
    · rename_i e; exact val (by simp [isV, e]) h
    · rename_i e; exact val (by simp [isV, e]) h
    · rename_i e; exact val (by simp [isV, e]) h
    · exact h.elim
  | convert s t x =>
    simp only [opE] at h
    split at h
    · rename_i e1 e2
      split at h
      · rename_i e3
        split at h
        · rename_i e4
          simp only [opD, memD, e1, e2, e3, e4]
          obtain ⟨h1, h2⟩ := chk_iff.1 h
          exact ⟨fresh_iff h1, hk _ (fN_iff.1 h2)⟩
        · exact h.elim
      · exact h.elim
    · rename_i i j hne e1 e2
      refine val ?_ h
      simp only [isV, e1, e2]
    · exact h.elim
  | _ =>
    unfold opE at h
    exact val (chk_iff.1 h).1 (chk_iff.1 h).2
end
end Go.Proofs.Ytoklfidamhigcaa.D
