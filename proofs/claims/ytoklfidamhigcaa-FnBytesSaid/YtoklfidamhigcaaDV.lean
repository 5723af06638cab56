/- Regions that draw their order: one slot turned changes nothing for an operation that does not look at it. -/
import Derived.Test.YtoklfidamhigcaaDR
namespace Go.Proofs.Ytoklfidamhigcaa.D
open Go.RowKit
set_option linter.unusedVariables false

structure OffD (d : Tmp) (S S' : St) : Prop where
  t : ∀ t, t ≠ d → S.T t = S'.T t
  l : S.L = S'.L
  m : S.mv = S'.mv
theorem OffD.ev {d : Tmp} {S S' : St} (h : OffD d S S') {x : Operand} (hx : x ≠ .tmp d) : S.ev x = S'.ev x := by
  cases x with
  | tmp t => exact h.1 _ (by rintro rfl; exact hx rfl)
  | _ => rfl
theorem OffD.symm {d : Tmp} {S S' : St} (h : OffD d S S') : OffD d S' S := ⟨fun t ht => (h.1 t ht).symm, h.2.symm, h.3.symm⟩
theorem OffD.put {d : Tmp} {S S' : St} (h : OffD d S S') (t : Option Tmp) (v : SV) : OffD d (S.put t v) (S'.put t v) := by
  cases t with
  | none => exact h
  | some t => exact ⟨fun u hu => by
      simp only [St.put, upd]
      split
      · rfl
      · exact h.1 u hu, h.2, h.3⟩
theorem OffD.kill {d : Tmp} {S S' : St} (h : OffD d S S') (p : Nat) : OffD d (S.kill p) (S'.kill p) := ⟨fun t ht => by simp [St.kill, h.1 t ht], by simp [St.kill, h.2], h.3⟩
theorem OffD.new {d : Tmp} {S S' : St} (h : OffD d S S') (p : Nat) (r : Row) : OffD d (S.new p r) (S'.new p r) := ⟨h.1, by simp [St.new, h.2], h.3⟩
theorem OffD.frz {d : Tmp} {S S' : St} (h : OffD d S S') (p : Nat) : OffD d (S.frz p) (S'.frz p) := ⟨(h.kill p).1, by simp [St.frz, (h.kill p).2], h.3⟩
theorem OffD.mov {d : Tmp} {S S' : St} (h : OffD d S S') (p : Nat) : OffD d (S.mov p) (S'.mov p) := ⟨h.1, h.2, by simp [St.mov, h.3]⟩
theorem OffD.after {d : Tmp} {S S' : St} (h : OffD d S S') (ps : List Nat) (nm : Nat) (mv : List Nat) (Lo : List Row) : OffD d (S.after ps nm mv Lo) (S'.after ps nm mv Lo) :=
  ⟨fun t ht => by simp [St.after, h.1 t ht], by simp [St.after, h.2], by simp [St.after, h.3]⟩

section
variable {tb : TypeId → Option TyI} {S S' : St}

theorem ptrCells_off (hL : S.L = S'.L) (c : CV) : ptrCells S c = ptrCells S' c := by cases c <;> simp [ptrCells, hL]
theorem mapInt_ev {x : Operand} {K : IntKind → Int → Prop} (e : S.ev x = S'.ev x) : mapInt S x K = mapInt S' x K := by simp [mapInt, e]
theorem mapInt_mono {x : Operand} {K K' : IntKind → Int → Prop} (hk : ∀ k n, K k n → K' k n) (h : mapInt S x K) : mapInt S x K' := by
  unfold mapInt at *; split at h
  · exact hk _ _ h
  · exact h.elim
theorem boundD_mono {x : Option Operand} {d y : Nat} {K K' : Nat → Prop} (hk : ∀ n, K n → K' n) (h : boundD S x d y K) : boundD S x d y K' := by
  unfold boundD at *; split
  · exact hk _ h
  · exact mapInt_mono (fun k n h => ⟨h.1, hk _ h.2⟩) h
theorem selD_mono {i : TyI} {cs : List CV} {o : Nat} {K K' : SV → Prop} (hk : ∀ v, K v → K' v) (h : selD i cs o K) : selD i cs o K' := by
  unfold selD at *; split
  · rename_i e; rw [e] at h; exact ⟨h.1, hk _ h.2⟩
  · rename_i e; rw [e] at h; simp only at h; split
    · rename_i c hc; rw [hc] at h; exact hk _ h
    · rename_i hc; rw [hc] at h; exact h
theorem binD_mono {op : BinOp} {t : TypeId} {u v : Value} {K K' : Value → Prop} (hk : ∀ v, K v → K' v) (h : binD tb op t u v K) : binD tb op t u v K' := by
  unfold binD at h
  split at h <;> first
    | exact hk _ h
    | exact ⟨h.1, hk _ h.2⟩
    | exact ⟨h.1, h.2.1, hk _ h.2.2⟩
    | (split at h
       · rename_i e; simp only [binD, e]; exact hk _ h
       · exact h.elim)
    | exact h.elim
theorem eqFs_mono {rec : TypeId → SV → SV → (Bool → Prop) → Prop} (hrec : ∀ t u v (K K' : Bool → Prop), (∀ b, K b → K' b) → rec t u v K → rec t u v K') :
    ∀ (fs : List (Nat × TypeId)) (cs ds : List CV) {K K' : Bool → Prop}, (∀ b, K b → K' b) → eqFs tb rec fs cs ds K → eqFs tb rec fs cs ds K'
  | [], _, _, _, _, hk, h => hk _ h
  | (off, ft) :: rest, cs, ds, K, K', hk, h => by
    simp only [eqFs] at h ⊢
    split
    · rename_i i hi
      rw [hi] at h
      exact selD_mono (fun a h => selD_mono (fun b h => hrec _ _ _ _ _ (fun r h => eqFs_mono hrec rest cs ds (fun r' h => hk _ h) h) h) h) h
    · rename_i hi; rw [hi] at h; exact h
theorem eqK_mono : ∀ (n : Nat) (t : TypeId) (u v : SV) {K K' : Bool → Prop}, (∀ b, K b → K' b) → eqK tb n t u v K → eqK tb n t u v K'
  | 0, _, _, _, _, _, _, h => h
  | n + 1, t, u, v, K, K', hk, h => by
    unfold eqK at h
    split at h
    · rename_i e; simp only [eqK, e]; exact ⟨h.1, hk _ h.2⟩
    · rename_i e; simp only [eqK, e]; exact hk _ h
    · rename_i e; simp only [eqK, e]; exact hk _ h
    · rename_i e; simp only [eqK, e]; exact eqFs_mono (fun t u v K K' => eqK_mono n t u v) _ _ _ hk h
    · exact h.elim
theorem lenD_mono {t : TypeId} {v : SV} {K K' : SV → Prop} (hk : ∀ v, K v → K' v) (h : lenD tb t v K) : lenD tb t v K' := by
  unfold lenD at h
  split at h <;> first
    | (rename_i e; simp only [lenD, e]; exact hk _ h)
    | exact h.elim
theorem callValD_mono {c : Callee} {args : List Operand} {types : List TypeId} {K K' : SV → Prop} (hk : ∀ v, K v → K' v) (h : callValD tb S c args types K) : callValD tb S c args types K' := by
  unfold callValD at h
  split at h
  · split at h
    · exact lenD_mono hk h
    · exact h.elim
  · split at h
    · exact mapInt_mono (fun _ _ h => mapInt_mono (fun _ _ h => hk _ h) h) h
    · exact h.elim
  · split at h
    · exact mapInt_mono (fun _ _ h => mapInt_mono (fun _ _ h => hk _ h) h) h
    · exact h.elim
  · exact h.elim
theorem callValD_ev {c : Callee} {args : List Operand} {types : List TypeId} {K : SV → Prop} (e : ∀ x ∈ args, S.ev x = S'.ev x) : callValD tb S c args types K = callValD tb S' c args types K := by
  unfold callValD
  split
  · split
    · rename_i x t; rw [e x (by simp)]
    · rfl
  · split
    · rename_i x y; simp only [mapInt, e x (by simp), e y (by simp)]
    · rfl
  · split
    · rename_i x y; simp only [mapInt, e x (by simp), e y (by simp)]
    · rfl
  · rfl
theorem boundD_ev {x : Option Operand} {d y : Nat} {K : Nat → Prop} (e : ∀ z ∈ x, S.ev z = S'.ev z) : boundD S x d y K = boundD S' x d y K := by
  unfold boundD; split
  · rfl
  · rename_i z; simp only [mapInt, e z (by simp)]
theorem valD_ev {op : Op} {K : SV → Prop} (e : ∀ x ∈ op.operands, S.ev x = S'.ev x) (hL : S.L = S'.L) : valD tb S op K = valD tb S' op K := by
  cases op with
  | build t parts =>
    have : (parts.toList.map fun p => (p.1, S.ev p.2)) = parts.toList.map fun p => (p.1, S'.ev p.2) := List.map_congr_left fun p hp => by
      rw [e p.2 (by simp only [Op.operands, List.mem_toArray, List.mem_map]; exact ⟨p, hp, rfl⟩)]
    simp only [valD, this]
  | call c =>
    simp only [valD]
    refine callValD_ev fun x hx => e x ?_
    simp only [Op.operands, Call.operands]
    cases c.callee <;> simp <;> first | exact .inr (by simpa using hx) | (simpa using hx)
  | slice t x lo hi mx =>
    have e1 := e x (by simp [Op.operands])
    have e2 : ∀ z ∈ lo, S.ev z = S'.ev z := fun z hz => e z (by simp [Op.operands]; exact .inr (.inl hz))
    have e3 : ∀ z ∈ hi, S.ev z = S'.ev z := fun z hz => e z (by simp [Op.operands]; exact .inr (.inr (.inl hz)))
    simp only [valD, e1, boundD_ev e2, boundD_ev e3]
  | load t x => simp only [valD, e x (by simp [Op.operands]), ptrCells_off hL]
  | pick c a b => simp only [valD, e c (by simp [Op.operands]), e a (by simp [Op.operands]), e b (by simp [Op.operands])]
  | binOp o t x y t' => simp only [valD, e x (by simp [Op.operands]), e y (by simp [Op.operands])]
  | indexAddr t x y => simp only [valD, mapInt, e x (by simp [Op.operands]), e y (by simp [Op.operands])]
  | index t x y => simp only [valD, mapInt, e x (by simp [Op.operands]), e y (by simp [Op.operands])]
  | move x => simp only [valD, e x (by simp [Op.operands])]
  | assign x => simp only [valD, e x (by simp [Op.operands])]
  | unOp o t x => simp only [valD, e x (by simp [Op.operands])]
  | convert s t x => simp only [valD, e x (by simp [Op.operands])]
  | fieldAddr s x f => simp only [valD, e x (by simp [Op.operands])]
  | field s x f => simp only [valD, e x (by simp [Op.operands])]
  | extract x i => simp only [valD, e x (by simp [Op.operands])]
  | nilCheck x => simp only [valD, e x (by simp [Op.operands])]
  | _ => rfl
theorem valD_mono {op : Op} {K K' : SV → Prop} (hk : ∀ v, K v → K' v) (h : valD tb S op K) : valD tb S op K' := by
  cases op with
  | move x => exact hk _ h
  | assign x => exact hk _ h
  | pick c a b =>
    simp only [valD] at h ⊢
    split at h
    · rename_i e; exact hk _ h
    · exact h.elim
  | binOp o t x y t' =>
    simp only [valD] at h ⊢
    split at h
    · rename_i e1 e2; exact binD_mono (fun _ h => hk _ h) h
    · rename_i e1 e2
      split at h
      · exact eqK_mono _ _ _ _ (fun _ h => hk _ h) h
      · exact eqK_mono _ _ _ _ (fun _ h => hk _ h) h
      · exact h.elim
    · exact h.elim
  | unOp o t x =>
    simp only [valD] at h ⊢
    split at h
    · rename_i e; exact hk _ h
    · rename_i e; exact hk _ h
    · rename_i e; exact hk _ h
    · exact h.elim
  | convert s t x =>
    simp only [valD] at h ⊢
    split at h
    · rename_i e1 e2 e3; exact hk _ h
    · rename_i e1 e2 e3; exact hk _ h
    · exact h.elim
  | fieldAddr s x f =>
    simp only [valD] at h ⊢
    split at h
    · rename_i e1 e2
      split at h
      · rename_i e3
        split at h
        · rename_i e4; exact hk _ h
        · exact h.elim
      · exact h.elim
    · exact h.elim
  | field s x f =>
    simp only [valD] at h ⊢
    split at h
    · rename_i e1 e2
      split at h
      · rename_i e3
        split at h
        · rename_i e4; exact selD_mono hk h
        · exact h.elim
      · exact h.elim
    · exact h.elim
  | indexAddr t x y =>
    simp only [valD] at h ⊢
    refine mapInt_mono (fun k n h => ?_) h
    split at h
    · rename_i e1 e2
      split at h
      · rename_i e3; exact ⟨h.1, hk _ h.2⟩
      · exact h.elim
    · rename_i e1 e2
      split at h
      · rename_i e3; exact ⟨h.1, h.2.1, hk _ h.2.2⟩
      · exact h.elim
    · rename_i e1 e2
      split at h
      · rename_i e3
        refine ⟨h.1, ?_⟩
        replace h := h.2
        split at h
        · rename_i e4; exact hk _ h
        · exact h.elim
      · exact h.elim
    · exact h.elim
  | index t x y =>
    simp only [valD] at h ⊢
    refine mapInt_mono (fun k n h => ?_) h
    split at h
    · rename_i e1 e2
      split at h
      · rename_i e3; exact ⟨h.1, selD_mono hk h.2⟩
      · exact h.elim
    · rename_i e1 e2
      refine ⟨h.1, ?_⟩
      replace h := h.2
      split at h
      · rename_i e4; exact hk _ h
      · exact h.elim
    · exact h.elim
  | slice t x lo hi mx =>
    simp only [valD] at h ⊢
    split at h
    · rename_i e1 e2; exact ⟨h.1, boundD_mono (fun _ h => boundD_mono (fun _ h => hk _ h) h) h.2⟩
    · rename_i e1 e2
      split at h
      · rename_i e3; exact ⟨h.1, h.2.1, boundD_mono (fun _ h => boundD_mono (fun _ h => hk _ h) h) h.2.2⟩
      · exact h.elim
    · rename_i e1 e2
      split at h
      · rename_i e3; exact ⟨h.1, h.2.1, boundD_mono (fun _ h => boundD_mono (fun _ h => hk _ h) h) h.2.2⟩
      · exact h.elim
    · rename_i e1 e2
      split at h
      · exact ⟨h.1, hk _ h.2⟩
      · exact h.elim
    · exact h.elim
  | extract x i =>
    simp only [valD] at h ⊢
    split at h
    · rename_i e1
      split at h
      · rename_i e2; exact hk _ h
      · rename_i e2; exact hk _ h
      · exact h.elim
    · exact h.elim
  | nilCheck x =>
    simp only [valD] at h ⊢
    split at h <;> first
      | (rename_i e; exact hk _ h)
      | exact h.elim
  | build t parts =>
    simp only [valD] at h ⊢
    split at h
    · rename_i e1
      refine ⟨h.1, ?_⟩
      replace h := h.2
      split at h
      · rename_i e2; exact hk _ h
      · exact h.elim
    · rename_i e1
      split at h
      · rename_i e2
        refine ⟨h.1, ?_⟩
        replace h := h.2
        split at h
        · rename_i e3; exact hk _ h
        · exact h.elim
      · exact h.elim
    · exact h.elim
  | load t x =>
    simp only [valD] at h ⊢
    split at h
    · rename_i e1 e2
      split at h
      · rename_i e3; exact selD_mono hk h
      · exact h.elim
    · exact h.elim
  | call c => exact callValD_mono hk h
  | _ => exact h
theorem valD_off {d : Tmp} {op : Op} (h : OffD d S S') (hd : ∀ x ∈ op.operands, x ≠ .tmp d) {K K' : SV → Prop} (hk : ∀ v, K v → K' v) (hv : valD tb S op K) : valD tb S' op K' := by
  rw [← valD_ev (fun x hx => h.ev (hd x hx)) h.2]; exact valD_mono hk hv

/-- .. and what S' comes to is what S comes to, but for that slot. -/
abbrev Off1 (d : Tmp) (K : St → Prop) : St → Prop := fun T' => ∃ T, K T ∧ OffD d T T'

theorem deepCells_off {d : Tmp} : ∀ (n : Nat) (cs : List CV) (S S' : St) (K : St → List DV → Prop), cs.length = n → OffD d S S' → deepCells S cs K → deepCells S' cs (fun T' ds => ∃ T, K T ds ∧ OffD d T T')
  | 0, [], S, S', K, _, ho, h => by simp only [deepCells] at h ⊢; exact ⟨S, h, ho⟩
  | n + 1, c :: cs, S, S', K, hn, ho, h => by
    simp at hn
    unfold deepCells at h ⊢
    split at h
    · exact deepCells_off n cs S S' _ hn ho h
    · exact deepCells_off n cs S S' _ hn ho h
    · rw [← ho.2]
      split at h
      · rename_i p k off len _ k' es e
        exact ⟨h.1, deepCells_off n _ _ _ _ (by simpa using hn) (ho.frz _) h.2⟩
      · exact h.elim
    · exact h.elim
theorem deepCells_mono' : ∀ {n : Nat} {cs : List CV} {S : St} {K K' : St → List DV → Prop}, cs.length = n → deepCells S cs K → (∀ T ds, K T ds → K' T ds) → deepCells S cs K'
  | 0, [], S, K, K', _, h, hk => by simp only [deepCells] at h ⊢; exact hk _ _ h
  | n + 1, c :: cs, S, K, K', hn, h, hk => by
    simp at hn
    unfold deepCells at h ⊢
    split at h
    · exact deepCells_mono' hn h fun _ _ h => hk _ _ h
    · exact deepCells_mono' hn h fun _ _ h => hk _ _ h
    · split at h
      · exact ⟨h.1, deepCells_mono' (by simpa using hn) h.2 fun _ _ h => hk _ _ h⟩
      · exact h.elim
    · exact h.elim
theorem srcD_mono {size : Nat} {v : SV} {K K' : List (List DV) → Prop} (hk : ∀ es, K es → K' es) (h : srcD S size v K) : srcD S size v K' := by
  unfold srcD at h ⊢
  split at h
  · exact hk _ h
  · exact ⟨h.1, hk _ h.2⟩
  · split at h
    · exact ⟨h.1, hk _ h.2⟩
    · exact h.elim
  · exact ⟨h.1, hk _ h.2⟩
  · exact h.elim
theorem srcD_L {size : Nat} {v : SV} {K : List (List DV) → Prop} (hL : S.L = S'.L) : srcD S size v K = srcD S' size v K := by
  unfold srcD; rw [hL]
theorem storeD_off {d : Tmp} {c : CV} {cs : List CV} {K : St → Prop} (ho : OffD d S S') (h : storeD S c cs K) : storeD S' c cs (Off1 d K) := by
  unfold storeD at h ⊢
  split at h
  · rw [← ho.2]
    split at h
    · exact ⟨h.1, _, h.2, ho.new _ _⟩
    · exact h.elim
  · refine deepCells_mono' rfl (deepCells_off _ _ _ _ _ rfl ho h) ?_
    rintro T' ds ⟨T, h, ho'⟩
    rw [← ho'.2]
    split at h
    · exact ⟨h.1, _, h.2, ho'.new _ _⟩
    · exact h.elim
  · exact h.elim
theorem storeD_mono' {c : CV} {cs : List CV} {K K' : St → Prop} (h : storeD S c cs K) (hk : ∀ T, K T → K' T) : storeD S c cs K' := by
  unfold storeD at h ⊢
  split at h
  · split at h
    · exact ⟨h.1, hk _ h.2⟩
    · exact h.elim
  · refine deepCells_mono' rfl h fun T ds h => ?_
    split at h
    · exact ⟨h.1, hk _ h.2⟩
    · exact h.elim
  · exact h.elim
theorem appD_off {d : Tmp} {nm : Nat} {dst : Option Tmp} {s x : Operand} {t t' : TypeId} {K : St → Prop} (ho : OffD d S S') (e1 : S.ev s = S'.ev s) (e2 : S.ev x = S'.ev x) (h : appD tb nm S dst s x t t' K) :
    appD tb nm S' dst s x t t' (Off1 d K) := by
  unfold appD at h ⊢
  split at h
  · split at h
    · refine ⟨h.1, ?_⟩
      replace h := h.2
      rw [← e1, ← e2, ← ho.2]
      split at h
      · refine ⟨h.1, ?_⟩
        rw [← srcD_L ho.2]
        exact srcD_mono (fun es h => ⟨h.1, _, h.2, (ho.new _ _).put _ _⟩) h.2
      · split at h
        · refine ⟨h.1, ?_⟩
          rw [← srcD_L ho.2]
          exact srcD_mono (fun es h => ⟨h.1, _, h.2, (((ho.kill _).new _ _).mov _).put _ _⟩) h.2
        · exact h.elim
      · split at h
        · split at h
          · refine ⟨h.1, ?_⟩
            rw [← srcD_L ho.2]
            exact srcD_mono (fun es h => ⟨h.1, _, h.2, (ho.new _ _).put _ _⟩) h.2
          · exact h.elim
        · exact h.elim
      · exact h.elim
    · exact h.elim
  · exact h.elim

theorem memD_off {d : Tmp} {nm : Nat} {op : Op} {dst : Option Tmp} {K : St → Prop} (ho : OffD d S S') (hd : ∀ x ∈ op.operands, x ≠ .tmp d) (h : memD tb nm S op dst K) : memD tb nm S' op dst (Off1 d K) := by
  have e : ∀ x ∈ op.operands, S.ev x = S'.ev x := fun x hx => ho.ev (hd x hx)
  have val : valD tb S op (fun v => K (S.put dst v)) → valD tb S' op (fun v => Off1 d K (S'.put dst v)) := valD_off ho hd fun v h => ⟨_, h, ho.put _ _⟩
  cases op with
  | box t x =>
    simp only [memD, ← e x (by simp [Op.operands]), ← ho.2] at h ⊢
    split at h
    · exact ⟨h.1, _, h.2, (ho.new _ _).put _ _⟩
    · exact h.elim
  | alloc t =>
    simp only [memD, ← ho.2] at h ⊢
    split at h
    · exact ⟨h.1, _, h.2, (ho.new _ _).put _ _⟩
    · exact h.elim
  | store t x v =>
    simp only [memD, ← e x (by simp [Op.operands]), ← e v (by simp [Op.operands])] at h ⊢
    split at h
    · refine ⟨h.1, storeD_mono' (storeD_off ho h.2) ?_⟩
      rintro T' ⟨T, h, ho'⟩
      exact ⟨_, h, ho'.put _ _⟩
    · exact h.elim
  | buildSlice t len parts =>
    have : (parts.toList.map fun p => (p.1, S.ev p.2)) = parts.toList.map fun p => (p.1, S'.ev p.2) := List.map_congr_left fun p hp => by
      rw [e p.2 (by simp only [Op.operands, List.mem_toArray, List.mem_map]; exact ⟨p, hp, rfl⟩)]
    simp only [memD, ← this, ← ho.2] at h ⊢
    split at h
    · split at h
      · refine ⟨h.1, ?_⟩
        replace h := h.2
        split at h
        · refine deepCells_mono' rfl (deepCells_off _ _ _ _ _ rfl ho h) ?_
          rintro T' ds ⟨T, h, ho'⟩
          exact ⟨_, h, (ho'.new _ _).put _ _⟩
        · exact h.elim
      · exact h.elim
    · exact h.elim
  | makeSlice t l c =>
    simp only [memD, mapInt, ← e l (by simp [Op.operands]), ← e c (by simp [Op.operands]), ← ho.2] at h ⊢
    split at h
    · split at h
      · split at h
        · split at h
          · exact ⟨h.1, _, h.2, (ho.new _ _).put _ _⟩
          · exact h.elim
        · exact h.elim
      · exact h.elim
    · exact h.elim
  | call c =>
    simp only [memD] at h ⊢
    have ea : ∀ x ∈ c.args.toList, S.ev x = S'.ev x := fun x hx => e x (by
      simp only [Op.operands, Call.operands]
      cases c.callee <;> simp <;> first | exact .inr (by simpa using hx) | (simpa using hx))
    split at h
    · rename_i s x t t' h1 h2 h3
      exact appD_off ho (ea s (by rw [h2]; simp)) (ea x (by rw [h2]; simp)) h
    · rw [← callValD_ev ea]
      exact callValD_mono (fun v h => ⟨_, h, ho.put _ _⟩) h
  | convert s t x =>
    simp only [memD, ← e x (by simp [Op.operands]), ← ho.2] at h ⊢
    split at h
    · split at h
      · exact ⟨h.1, _, h.2, (ho.new _ _).put _ _⟩
      · exact h.elim
    · exact h.elim
    · split at h
      · rw [← srcD_L ho.2]
        refine srcD_mono (fun es h => ?_) h
        obtain ⟨bs, h1, h2⟩ := h
        exact ⟨bs, h1, _, h2, ho.put _ _⟩
      · exact h.elim
    · exact val h
  | _ => exact val h

variable {P : Program}
theorem argC_L {bor : Bool} {ps : List Nat} {c : CV} {K : CV → Prop} (hL : S.L = S'.L) : argC bor S ps c K = argC bor S' ps c K := by unfold argC; rw [hL]
theorem argCs_L {bor : Bool} {ps : List Nat} (hL : S.L = S'.L) : ∀ (cs : List CV) {K : List CV → Prop}, argCs bor S ps cs K = argCs bor S' ps cs K
  | [], _ => rfl
  | c :: cs, K => by simp only [argCs, argC_L hL, argCs_L hL cs]
theorem argS_L {bor : Bool} {ps : List Nat} (hL : S.L = S'.L) (v : SV) {K : SV → Prop} : argS bor S ps v K = argS bor S' ps v K := by
  unfold argS; split
  · rw [argC_L hL]
  · rw [argCs_L hL]
  · rfl
theorem argSs_L {bor : Bool} {ps : List Nat} (hL : S.L = S'.L) : ∀ (vs : List SV) {K : List SV → Prop}, argSs bor S ps vs K = argSs bor S' ps vs K
  | [], _ => rfl
  | v :: vs, K => by simp only [argSs, argS_L hL, argSs_L hL vs]
theorem rowsD_L {bor : Bool} {ps0 : List Nat} (hL : S.L = S'.L) : ∀ (ps : List Nat) {K : List Row → Prop}, rowsD bor S ps0 ps K = rowsD bor S' ps0 ps K
  | [], _ => rfl
  | p :: ps, K => by simp only [rowsD, hL, argCs_L hL, rowsD_L hL ps]
theorem argC_mono {bor : Bool} {ps : List Nat} {c : CV} {K K' : CV → Prop} (hk : ∀ x, K x → K' x) (h : argC bor S ps c K) : argC bor S ps c K' := by
  unfold argC at h ⊢
  split at h
  · exact hk _ h
  · exact hk _ h
  · exact hk _ h
  · split at h
    · exact hk _ h
    · exact h.elim
  · split at h
    · exact hk _ h
    · exact h.elim
  · split at h
    · exact hk _ h
    · split at h
      · exact ⟨h.1, hk _ h.2⟩
      · exact h.elim
  · exact h.elim
  · exact hk _ h
theorem argCs_mono {bor : Bool} {ps : List Nat} : ∀ {cs : List CV} {K K' : List CV → Prop}, (∀ x, K x → K' x) → argCs bor S ps cs K → argCs bor S ps cs K'
  | [], _, _, hk, h => hk _ h
  | c :: cs, K, K', hk, h => argC_mono (fun _ h => argCs_mono (fun _ h => hk _ h) h) h
theorem argS_mono {bor : Bool} {ps : List Nat} {v : SV} {K K' : SV → Prop} (hk : ∀ x, K x → K' x) (h : argS bor S ps v K) : argS bor S ps v K' := by
  unfold argS at h ⊢
  split at h
  · exact argC_mono (fun _ h => hk _ h) h
  · exact argCs_mono (fun _ h => hk _ h) h
  · exact h.elim
theorem argSs_mono {bor : Bool} {ps : List Nat} : ∀ {vs : List SV} {K K' : List SV → Prop}, (∀ x, K x → K' x) → argSs bor S ps vs K → argSs bor S ps vs K'
  | [], _, _, hk, h => hk _ h
  | v :: vs, K, K', hk, h => argS_mono (fun _ h => argSs_mono (fun _ h => hk _ h) h) h
theorem rowsD_mono {bor : Bool} {ps0 : List Nat} : ∀ {ps : List Nat} {K K' : List Row → Prop}, (∀ x, K x → K' x) → rowsD bor S ps0 ps K → rowsD bor S ps0 ps K'
  | [], _, _, hk, h => hk _ h
  | p :: ps, K, K', hk, h => by
    unfold rowsD at h ⊢
    split at h
    · exact rowsD_mono (fun _ h => hk _ h) h
    · exact argCs_mono (fun _ h => rowsD_mono (fun _ h => hk _ h) h) h
    · exact h.elim
theorem callD_off {d : Tmp} {nm : Nat} {dst : Option Tmp} {fv : SV} {args : List SV} {K : St → Prop} (ho : OffD d S S') (h : callD P nm S dst fv args K) : callD P nm S' dst fv args (Off1 d K) := by
  obtain ⟨ps, bor, f, h1, h2, h⟩ := h
  refine ⟨ps, bor, f, h1, h2, ?_⟩
  rw [← argSs_L ho.2]
  refine argSs_mono (fun args' h => ?_) h
  rw [← rowsD_L ho.2]
  refine rowsD_mono (fun Li h => ?_) h
  obtain ⟨mv, cl, Post, hc, hcl, h⟩ := h
  refine ⟨mv, cl, Post, hc, hcl, fun res Lo hp => ?_⟩
  obtain ⟨g1, g3⟩ := h res Lo hp
  exact ⟨by rw [← ho.2]; exact g1, _, g3, (ho.after _ _ _ _).put _ _⟩
theorem opD_off {d : Tmp} {nm : Nat} {op : Op} {dst : Option Tmp} {K : St → Prop} (ho : OffD d S S') (hd : ∀ x ∈ op.operands, x ≠ .tmp d) (h : opD P tb nm S op dst K) : opD P tb nm S' op dst (Off1 d K) := by
  unfold opD at h ⊢
  split at h
  · rename_i c
    split at h
    · rename_i fo hc
      have e : ∀ x ∈ (Op.call c).operands, S.ev x = S'.ev x := fun x hx => ho.ev (hd x hx)
      have e1 : S.ev fo = S'.ev fo := e fo (by simp [Op.operands, Call.operands, hc])
      have e2 : c.args.toList.map S.ev = c.args.toList.map S'.ev := List.map_congr_left fun x hx => e x (by simp [Op.operands, Call.operands, hc]; exact .inr (by simpa using hx))
      rw [← e1, ← e2]
      exact callD_off ho h
    · exact memD_off ho hd h
  · exact memD_off ho hd h
end
end Go.Proofs.Ytoklfidamhigcaa.D
