/- The operations that make rows, or write to them. -/
import Derived.Test.YtoklfidamhigcaaDM
namespace Go.Proofs.Ytoklfidamhigcaa.D
open Go.RowKit

def zerosD (z : List Z) : List DV := z.map fun c => match c with | .zl => .sl [] | c => .sc c.val

def storeD (S : St) (c : CV) (cs : List CV) (K : St → Prop) : Prop :=
  match c with
  | .ptr p off => (match S.L p with | some (.box old) => off + cs.length ≤ old.length ∧ K (S.new p (.box (old.take off ++ cs ++ old.drop (off + cs.length)))) | _ => False)
  | .ep p k i f => deepCells S cs fun S' ds =>
      (match S'.L p with
      | some (.own k' es) => (k = k' ∧ i < es.length ∧ f + ds.length ≤ k) ∧ K (S'.new p (.own k (es.set i ((es.getD i []).take f ++ ds ++ (es.getD i []).drop (f + ds.length)))))
      | _ => False)
  | _ => False

def memD (tb : TypeId → Option TyI) (nm : Nat) (S : St) (op : Op) (dst : Option Tmp) (K : St → Prop) : Prop :=
  match op with
  | .box _ x => (match (S.ev x).cells? with | some cs => (S.L nm = none ∧ 1000 ≤ nm) ∧ K ((S.new nm (.box cs)).put dst (.one (.ptr nm 0))) | none => False)
  | .alloc t => (match tb t with | some i => (i.zero ≠ [] ∧ S.L nm = none ∧ 1000 ≤ nm) ∧ K ((S.new nm (.box (i.zero.map Z.cv))).put dst (.one (.ptr nm 0))) | none => False)
  | .store t x v =>
    (match tb t, S.ev x, (S.ev v).cells? with
    | some i, .one c, some cs => (cs.length = i.size ∧ cs.all cellOk = true) ∧ storeD S c cs fun S' => K (S'.put dst (.one .dead))
    | _, _, _ => False)
  | .buildSlice t len parts =>
    (match tb t with
    | some { kind := .slice e, .. } =>
      (match tb e with
      | some i => (i.zero ≠ [] ∧ S.L nm = none ∧ 1000 ≤ nm ∧ len * i.size ≤ 2 ^ 24) ∧
        (match fillC (fun j => some (j * i.size, i.size)) (List.replicate len (i.zero.map Z.cv)).flatten (parts.toList.map fun p => (p.1, S.ev p.2)) with
        | some cs => deepCells S cs fun S' ds => K ((S'.new nm (.own i.size (chunks i.size len ds))).put dst (.one (.os nm i.size 0 len)))
        | none => False)
      | none => False)
    | _ => False)
  | .makeSlice t l c =>
    (match tb t with
    | some { kind := .slice e, .. } =>
      (match tb e with
      | some i => mapInt S l fun _ l => mapInt S c fun _ c => (i.zero ≠ [] ∧ S.L nm = none ∧ 1000 ≤ nm ∧ 0 ≤ l ∧ l ≤ c ∧ c ≤ 2 ^ 40 ∧ i.bytes * c ≤ 2 ^ 48) ∧
          K ((S.new nm (.own i.size (List.replicate l.toNat (zerosD i.zero)))).put dst (.one (.os nm i.size 0 l.toNat)))
      | none => False)
    | _ => False)
  | .call c =>
    (match c.callee, c.args.toList, c.argTypes.toList with
    | .builtin .append, [s, x], [t, t'] => appD tb nm S dst s x t t' K
    | _, _, _ => callValD tb S c.callee c.args.toList c.argTypes.toList fun v => K (S.put dst v))
  | .convert src dstT x =>
    (match tb src, tb dstT, S.ev x with
    | some { kind := .string, .. }, some { kind := .slice e, .. }, .one (.dv (.sc (.string s))) =>
      (match tb e with
      | some { kind := .int .u8, .. } => (S.L nm = none ∧ 1000 ≤ nm) ∧ K ((S.new nm (.own 1 (s.data.toList.map fun b => [.sc (.int .u8 b.toNat)]))).put dst (.one (.os nm 1 0 s.size)))
      | _ => False)
    | some { kind := .slice _, .. }, some { kind := .string, .. }, .one (.dv (.sc _)) => False
    | some { kind := .slice e, .. }, some { kind := .string, .. }, v =>
      (match tb e with
      | some { kind := .int .u8, .. } => srcD S 1 v fun es => ∃ bs : List UInt8, es = bs.map (fun b => [.sc (.int .u8 b.toNat)]) ∧ K (S.put dst (vS ⟨bs.toArray⟩))
      | _ => False)
    | _, _, _ => valD tb S op fun v => K (S.put dst v))
  | op => valD tb S op fun v => K (S.put dst v)

section
variable {P : Program} (tb : Tab P) {w0 : World} {M : Rows0} {N : Nat} {V V0 : View} {bs : Loc} {S : St} {a : Act} {w : World}

theorem all_one {cs : List CV} {vs : List Value} (h : CRs V bs cs vs) (hc : cs.all cellOk = true) : ∀ v ∈ vs, v.oneCell' = true := by
  induction h with
  | nil => simp
  | cons h _ ih =>
    simp only [List.all_cons, Bool.and_eq_true] at hc
    intro v hv
    rcases List.mem_cons.1 hv with rfl | hv
    · exact cellOk_one h hc.1
    · exact ih hc.2 v hv

/-- A row that is written cell by cell. -/
theorem storeD_ok (hs : Sat1 w0 M N V bs S a w) (h0 : V0.le V) (h1 : ∀ x v, V x = some v → V0 x = some v ∨ w0.heap.size ≤ x.block) {c : CV} {v : Value} {cs : List CV} {vs : List Value} (hc : CR V bs c v) (hcs : CRs V bs cs vs)
    (hone : ∀ v ∈ vs, v.oneCell' = true) {K : St → Prop} (h : storeD S c cs K) :
    ∃ b o S' w', K S' ∧ v = .pointer (some ⟨b, o, none⟩) ∧ (storeCells ⟨b, o, none⟩ vs).run P w = .ok () w' ∧ Sat w0 M N V0 S' a w' := by
  have hlen := hcs.length
  unfold storeD at h
  split at h
  · rename_i p off
    split at h
    · rename_i old hL
      obtain ⟨hle, hK⟩ := h
      cases hc with
      | @ptr _ _ b n hb =>
        obtain ⟨hn, hf, us, hu, hcell⟩ : RowSat V bs w b n (.box old) := by
          rcases hs.rows p _ hL with ⟨b', n', hb', hr⟩ | ⟨_, k, hk⟩
          · rw [hb] at hb'; simp at hb'; obtain ⟨rfl, rfl⟩ := hb'; exact hr
          · simp at hk
        have hul := hu.length
        obtain ⟨w', g1, g2, g3, g4⟩ := run_storeCells (P := P) vs w b off 0 (fun j hj => by
          have hj' : off + (0 + j) < us.length := by omega
          refine ⟨?_, hf _ (by omega)⟩
          rw [hcell _ _ (List.getElem?_eq_getElem hj')]; rfl) hone
        refine ⟨b, off, _, w', hK, rfl, g1, (hs.wrote hb g2 (r := .box (old.take off ++ cs ++ old.drop (off + cs.length))) ⟨?_, fun j hj => by rw [g2.frozen]; exact hf j hj, us.take off ++ vs ++ us.drop (off + cs.length), ?_, fun j u hj => ?_⟩).sat h0 h1⟩
        · simp; omega
        · exact ((hu.take off).append hcs).append (hu.drop _)
        · simp only [Nat.zero_add, Nat.add_zero] at g3 g4
          by_cases h5 : j < off
          · rw [g4 j (.inl h5)]
            have hlt : j < (us.take off ++ vs).length := by simp; omega
            rw [List.getElem?_append_left hlt, List.getElem?_append_left (by simp; omega), List.getElem?_take, if_pos h5] at hj
            exact hcell _ _ hj
          · by_cases h6 : j < off + vs.length
            · rw [List.getElem?_append_left (by simp; omega), List.getElem?_append_right (by simp; omega)] at hj
              have e1 : (us.take off).length = off := by simp; omega
              rw [e1] at hj
              have := g3 _ _ hj
              rwa [show off + (j - off) = j by omega] at this
            · rw [List.getElem?_append_right (by simp; omega), List.getElem?_drop] at hj
              have e1 : off + cs.length + (j - (us.take off ++ vs).length) = j := by simp; omega
              rw [e1] at hj
              rw [g4 j (.inr (by omega))]
              exact hcell _ _ hj
    · exact h.elim
  · rename_i p k i f
    cases hc with
    | @ep _ _ _ _ b n hb =>
      obtain ⟨S', V', bs', ds, hK, hV, hpost, hs', hrd, hnone, hbs⟩ := deepCells_ok _ cs vs _ rfl hs hcs h
      split at hK
      · rename_i k' es hL
        obtain ⟨⟨rfl, hi, hfl⟩, hK⟩ := hK
        have hb' : bs' p = some (b, n) := by rw [hbs p (by rw [hL]; simp)]; exact hb
        obtain ⟨hr1, hr2, hr3, hr4⟩ : RowSat V' bs' w b n (.own k es) := by
          rcases hs'.rows p _ hL with ⟨b', n', hb'', hr⟩ | ⟨hb'', k0, hk⟩
          · rw [hb'] at hb''; simp at hb''; obtain ⟨rfl, rfl⟩ := hb''; exact hr
          · rw [hb'] at hb''; simp at hb''
        have hdl := hrd.length
        have hik : (i + 1) * k ≤ es.length * k := Nat.mul_le_mul_right k hi
        have hik' : (i + 1) * k = i * k + k := by rw [Nat.add_mul]; simp
        obtain ⟨w', g1, g2, g3, g4⟩ := run_storeCells (P := P) vs w b (i * k + f) 0 (fun j hj => by
          simpa using hr2 (i * k + f + j) (by omega)) hone
        simp only [Nat.zero_add, Nat.add_zero] at g3 g4
        have hgd : es.getD i [] = es[i] := by simp [List.getD, hi]
        have hel := hr3 i hi
        have hnew : ((es.getD i []).take f ++ ds ++ (es.getD i []).drop (f + ds.length)).length = k := by rw [hgd]; simp [hel]; omega
        have hpost' : ∀ x v, V' x = some v → V0 x = some v ∨ w0.heap.size ≤ x.block := fun x v hx => (hpost x v hx).elim (h1 x v) .inr
        refine ⟨b, i * k + f, _, w', hK, rfl, g1, (hs'.wrote hb' g2 (r := .own k (es.set i ((es.getD i []).take f ++ ds ++ (es.getD i []).drop (f + ds.length)))) ⟨by simpa using hr1, fun j hj => ⟨?_, by rw [g2.frozen]; exact (hr2 j hj).2⟩, fun j hj => ?_, fun j m hj hm => ?_⟩).sat (h0.trans hV) hpost'⟩
        · by_cases hin : i * k + f ≤ j ∧ j < i * k + f + vs.length
          · obtain ⟨q, rfl⟩ : ∃ q, j = i * k + f + q := ⟨j - (i * k + f), by omega⟩
            rw [g3 q vs[q] (List.getElem?_eq_getElem (by omega))]; rfl
          · rw [g4 j (by omega)]; exact (hr2 j hj).1
        · rw [List.getElem_set]; split
          · exact hnew
          · exact hr3 j _
        · simp only [List.length_set] at hj
          by_cases hji : i = j
          · subst hji
            have hset : (es.set i ((es.getD i []).take f ++ ds ++ (es.getD i []).drop (f + ds.length)))[i]'(by simpa using hj) = (es.getD i []).take f ++ ds ++ (es.getD i []).drop (f + ds.length) := by simp
            have hm' : m < k := by rw [← hnew, ← hset]; exact hm
            have goal : ∃ v, w'.cell? ⟨b, i * k + m, none⟩ = some v ∧ ∀ d, ((es.getD i []).take f ++ ds ++ (es.getD i []).drop (f + ds.length))[m]? = some d → Rd V' v d := by
              by_cases h5 : m < f
              · obtain ⟨v, h6, h7⟩ := hr4 i m hi (by omega)
                refine ⟨v, by rw [g4 _ (.inl (by omega))]; exact h6, fun d hd => ?_⟩
                rw [List.getElem?_append_left (by rw [hgd]; simp; omega), List.getElem?_append_left (by rw [hgd]; simp; omega), List.getElem?_take, if_pos h5, hgd, List.getElem?_eq_getElem (by omega)] at hd
                injection hd with hd; rw [← hd]; exact h7
              · by_cases h6 : m < f + ds.length
                · obtain ⟨v, h7, h8⟩ := hrd.get (m - f) (by omega)
                  refine ⟨v, ?_, fun d hd => ?_⟩
                  · have := g3 _ _ h7; rwa [show i * k + f + (m - f) = i * k + m by omega] at this
                  · have e1 : ((es.getD i []).take f).length = f := by rw [hgd]; simp; omega
                    rw [List.getElem?_append_left (by rw [List.length_append, e1]; omega), List.getElem?_append_right (by omega), e1, List.getElem?_eq_getElem (by omega)] at hd
                    injection hd with hd; rw [← hd]; exact h8
                · obtain ⟨v, h7, h8⟩ := hr4 i m hi (by omega)
                  refine ⟨v, by rw [g4 _ (.inr (by omega))]; exact h7, fun d hd => ?_⟩
                  have e1 : ((es.getD i []).take f ++ ds).length = f + ds.length := by rw [hgd]; simp; omega
                  rw [List.getElem?_append_right (by omega), List.getElem?_drop, e1, show f + ds.length + (m - (f + ds.length)) = m by omega, hgd, List.getElem?_eq_getElem (by omega)] at hd
                  injection hd with hd; rw [← hd]; exact h8
            obtain ⟨v, h5, h6⟩ := goal
            refine ⟨v, h5, h6 _ ?_⟩
            simp only [hset]
            exact List.getElem?_eq_getElem _
          · have hset : (es.set i ((es.getD i []).take f ++ ds ++ (es.getD i []).drop (f + ds.length)))[j]'(by simpa using hj) = es[j] := by rw [List.getElem_set, if_neg hji]
            have hm' : m < es[j].length := by rw [← hset]; exact hm
            obtain ⟨v, h6, h7⟩ := hr4 j m hj hm'
            have hmk : m < k := by rw [hr3 j hj] at hm'; exact hm'
            refine ⟨v, ?_, by simp only [hset]; exact h7⟩
            rw [g4 _ ?_]; exact h6
            rcases Nat.lt_or_gt_of_ne hji with h8 | h8
            · right
              have : (i + 1) * k ≤ j * k := Nat.mul_le_mul_right k h8
              omega
            · left
              have : (j + 1) * k ≤ i * k := Nat.mul_le_mul_right k h8
              have e2 : (j + 1) * k = j * k + k := by rw [Nat.add_mul]; simp
              omega
      · exact hK.elim
  · exact h.elim
end
end Go.Proofs.Ytoklfidamhigcaa.D
