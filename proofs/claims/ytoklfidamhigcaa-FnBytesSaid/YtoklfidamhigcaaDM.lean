/- The operations that make rows, or write to them: their answers. -/
import Derived.Test.YtoklfidamhigcaaDL
namespace Go.Proofs.Ytoklfidamhigcaa.D
open Go.RowKit

theorem Rd.one {V : View} {v : Value} {d : DV} (h : Rd V v d) : v.oneCell' = true := by
  cases h with
  | sc _ h => exact h
  | nil => rfl
  | sl => rfl

def chunks (k : Nat) : Nat → List DV → List (List DV)
  | 0, _ => []
  | n + 1, ds => ds.take k :: chunks k n (ds.drop k)
theorem chunks_length (k : Nat) : ∀ n ds, (chunks k n ds).length = n
  | 0, _ => rfl
  | n + 1, ds => by simp [chunks, chunks_length k n]
theorem chunks_flat {V : View} (k : Nat) : ∀ (n : Nat) (ds : List DV) (us : List Value), RdL V us ds → ds.length = n * k → FlatR V k (chunks k n ds) us
  | 0, ds, us, h, hl => by
    have := h.length
    have : us = [] := by cases us with | nil => rfl | cons _ _ => simp at this; omega
    subst this; exact .nil V k
  | n + 1, ds, us, h, hl => by
    have hul := h.length
    rw [Nat.add_mul] at hl; simp at hl
    have h1 : RdL V (us.drop k) (ds.drop k) := by
      have : ∀ (m : Nat) {us : List Value} {ds : List DV}, RdL V us ds → RdL V (us.drop m) (ds.drop m) := by
        intro m
        induction m with
        | zero => intro us ds h; simpa using h
        | succ m ih => intro us ds h; cases h with
          | nil => simp; exact .nil
          | cons _ t => simpa using ih t
      exact this k h
    have ih := chunks_flat k n (ds.drop k) (us.drop k) h1 (by simp; omega)
    have h0 : FlatR V k [ds.take k] (us.take k) := by
      refine ⟨by simp; omega, by simp; omega, fun i j hi hj => ?_⟩
      simp at hi; subst hi
      simp only [List.getElem_cons_zero, List.length_take] at hj ⊢
      obtain ⟨v, h2, h3⟩ := h.get j (by omega)
      exact ⟨v, by rw [Nat.zero_mul, Nat.zero_add, List.getElem?_take, if_pos (by omega)]; exact h2, by simpa using h3⟩
    have := h0.append ih
    simpa [chunks] using this
/-- Cells that are read, as what they read as. -/
def cvDs : List CV → Option (List DV)
  | [] => some []
  | .dv d :: r => (cvDs r).map (d :: ·)
  | _ => none
theorem cvDs_ok {V : View} {bs : Loc} {cs : List CV} {vs : List Value} (h : CRs V bs cs vs) : ∀ {ds : List DV}, cvDs cs = some ds → RdL V vs ds := by
  induction h with
  | nil => intro ds hd; simp [cvDs] at hd; subst hd; exact .nil
  | cons h _ ih =>
    intro ds hd
    unfold cvDs at hd
    split at hd
    · rename_i e; simp at e
    · rename_i e
      injection e with e1 e2; subst e1; subst e2
      simp only [Option.map_eq_some_iff] at hd
      obtain ⟨ds', h1, rfl⟩ := hd
      cases h with | dv h => exact .cons h (ih h1)
    · simp at hd

def TK.seq : TK → Bool | .slice _ => true | .string => true | _ => false

def appD (tb : TypeId → Option TyI) (nm : Nat) (S : St) (dst : Option Tmp) (s x : Operand) (t t' : TypeId) (K : St → Prop) : Prop :=
  match tb t with
  | some { kind := .slice e, .. } =>
    match tb e, tb t' with
    | some i, some i' => (i'.kind.seq = true ∧ i.zero ≠ []) ∧
      match S.ev s with
      | .one .nil => (S.L nm = none ∧ 1000 ≤ nm) ∧ srcD S i.size (S.ev x) fun news =>
          ((2 * news.length + 1024) * i.bytes ≤ 2 ^ 48 ∧ news.length ≤ 2 ^ 48) ∧ K ((S.new nm (.own i.size news)).put dst (.one (.os nm i.size 0 news.length)))
      | .one (.os p k 0 len) =>
        (match S.L p with
        | some (.own k' es) => (k = i.size ∧ k' = k ∧ len ≤ es.length) ∧ srcD S i.size (S.ev x) fun news =>
          ((2 * (len + news.length) + 1024) * i.bytes ≤ 2 ^ 48 ∧ len + news.length ≤ 2 ^ 48) ∧ K ((((S.kill p).new p (.own k (es.take len ++ news))).mov p).put dst (.one (.os p k 0 (len + news.length))))
        | _ => False)
      | .one (.sb p o k n) =>
        (match S.L p with
        | some (.box cs) => (match cvDs ((cs.drop o).take (n * k)) with
          | some ds => (k = i.size ∧ ds.length = n * k ∧ S.L nm = none ∧ 1000 ≤ nm) ∧ srcD S i.size (S.ev x) fun news =>
            (0 < news.length ∧ (2 * (n + news.length) + 1024) * i.bytes ≤ 2 ^ 48 ∧ n + news.length ≤ 2 ^ 48) ∧ K ((S.new nm (.own k (chunks k n ds ++ news))).put dst (.one (.os nm k 0 (n + news.length))))
          | none => False)
        | _ => False)
      | _ => False
    | _, _ => False
  | _ => False

section
variable {P : Program} (tb : Tab P) {w0 : World} {M : Rows0} {N : Nat} {V V0 : View} {bs : Loc} {S : St} {a : Act} {w : World}

theorem Sat1.mov (h : Sat1 w0 M N V bs S a w) (p : Nat) : Sat1 w0 M N V bs (S.mov p) a w :=
  { h with par := fun q r hq hlt hmv => h.par q r hq hlt fun hm => hmv (List.mem_cons_of_mem _ hm), dom := h.dom, rows := h.rows, tmps := h.tmps }
theorem Sat1.shrink (h : Sat1 w0 M N V bs S a w) {p k : Nat} {es : List (List DV)} (hL : S.L p = some (.own k es)) (n : Nat) : Sat1 w0 M N V bs (S.new p (.own k (es.take n))) a w := by
  refine ⟨h.keep, h.view, h.apart, h.inj, h.fresh, fun q r hq hlt hmv => ?_, h.ml, fun q hq => ?_, fun q r hq => ?_, h.tmps, h.defers, h.nt⟩
  · by_cases e : q = p
    · subst e; exact h.par q _ hL hlt hmv
    · simp only [St.new, upd_ne _ _ _ _ e] at hq; exact h.par q r hq hlt hmv
  · by_cases e : q = p
    · subst e; simp [St.new] at hq
    · simp only [St.new, upd_ne _ _ _ _ e] at hq; exact h.dom q hq
  · by_cases e : q = p
    · subst e; simp [St.new] at hq; subst hq
      rcases h.rows q _ hL with ⟨b, m, h1, h2, h3, h4, h5⟩ | ⟨h1, k', h2⟩
      · refine .inl ⟨b, m, h1, ?_, h3, fun i hi => ?_, fun i j hi hj => ?_⟩
        · exact Nat.le_trans (Nat.mul_le_mul_right k (by simp; omega)) h2
        · simp at hi; simp only [List.getElem_take]; exact h4 i (by omega)
        · simp at hi
          have he : (es.take n)[i]'(by simpa using hi) = es[i]'(by omega) := List.getElem_take
          obtain ⟨v, h6, h7⟩ := h5 i j (by omega) (by rw [← he]; exact hj)
          exact ⟨v, h6, by simp only [he]; exact h7⟩
      · injection h2 with h2 h3; subst h3; exact .inr ⟨h1, k, by simp⟩
    · simp only [St.new, upd_ne _ _ _ _ e] at hq; exact h.rows q r hq

theorem kill_new {S : St} {p k : Nat} {es : List (List DV)} : (S.new p (.own k es)).kill p = (S.kill p).new p (.own k es) := by
  simp only [St.kill, St.new]
  congr 1
  funext q
  by_cases e : q = p
  · subst e; simp [mapR]
  · simp [upd_ne _ _ _ _ e]

theorem flat_cells {V : View} {k : Nat} {es : List (List DV)} {us : List Value} (hf : FlatR V k es us) : ∀ u ∈ us, u.oneCell' = true := by
  intro u hu
  obtain ⟨j, hj, rfl⟩ := List.mem_iff_getElem.1 hu
  obtain ⟨h1, h2, h3⟩ := hf
  have hk0 : 0 < k := by rcases Nat.eq_zero_or_pos k with h | h; rw [h1, h] at hj; simp at hj; exact h
  rw [h1] at hj
  have hi : j / k < es.length := Nat.div_lt_of_lt_mul (by rw [Nat.mul_comm]; exact hj)
  obtain ⟨u, h4, h5⟩ := h3 (j / k) (j % k) hi (by rw [h2 _ (List.getElem_mem hi)]; exact Nat.mod_lt _ hk0)
  have : j / k * k + j % k = j := by rw [Nat.mul_comm]; exact Nat.div_add_mod j k
  rw [this] at h4
  rw [List.getElem?_eq_getElem (by rw [h1]; exact hj)] at h4
  injection h4 with h4
  rw [h4]; exact h5.one

theorem appD_ok (hs : Sat1 w0 M N V bs S a w) (h0 : V0.le V) (h1 : ∀ x v, V x = some v → V0 x = some v ∨ w0.heap.size ≤ x.block) {o : Oper} (hd : ∀ t, o.dst = some t → t < N) {nm : Nat} {s x : Operand} {t t' : TypeId}
    (ho : o.op = .call { callee := .builtin .append, args := #[s, x], argTypes := #[t, t'] }) {K : St → Prop} {Q : Exit → Act → World → Prop} (h : appD tb.tb nm S o.dst s x t t' K) :
    o.wp P a w (fun a' w' => ∃ S', K S' ∧ Sat w0 M N V0 S' a' w') Q := by
  have hev : ∀ x, VR V bs (S.ev x) (a.eval x) := ev_ok hs.tmps
  have hex : ∀ v w', (Builtin.append_ #[t, t'] o.type #[a.eval s, a.eval x]).run P w = .ok v w' → (execOp a.eval o).run P w = .ok (.value v) w' := by
    intro v w' hr
    simp [execOp, ho, resolve, invoke, builtin, hr]
  unfold appD at h
  split at h
  · rename_i e _ _ _ _ htb
    split at h
    · rename_i i i' hi hi'
      obtain ⟨⟨hk, hz⟩, h⟩ := h
      have hT := (tb.ok _ _ htb).slice rfl
      have hI := tb.ok _ _ hi
      have hI' := tb.ok _ _ hi'
      have hk' : (∃ e, i'.kind = .slice e) ∨ i'.kind = .string := by
        cases hkk : i'.kind <;> rw [hkk] at hk <;> simp [TK.seq] at hk
        · exact .inr rfl
        · exact .inl ⟨_, rfl⟩
      split at h
      · rename_i hsv
        obtain ⟨⟨hnm, hnm2⟩, h⟩ := h
        obtain ⟨news, us, ⟨⟨hb1, hb2⟩, hK⟩, hf, hl, _⟩ := srcD_ok hs (hev x) h
        have hs0 : a.eval s = .slice none 0 0 := by
          have h2 := hev s; rw [hsv] at h2
          generalize a.eval s = sv at h2
          have h2 := vr_one h2; cases h2; rfl
        obtain ⟨hl0, hc0⟩ := hl w fun _ => rfl
        obtain ⟨_, hc1⟩ := hl w.drew fun _ => rfl
        by_cases hne : news = []
        · subst hne
          have hrun := run_append_nothing (ty := o.type) hT hI hI' hk' (ad := none) (cap := 0) (by simpa using hl0) (by simpa using hc0 0 (by simp))
          refine wp_value (hex _ _ (by rw [hs0]; exact hrun)) ⟨_, hK, ?_⟩
          exact ((hs.empty hnm hnm2 i.size).put hd (.one .oszero)).sat h0 h1
        · have hpos : 0 < news.length := by cases news with | nil => exact absurd rfl hne | cons _ _ => simp
          have hfull : us.take (news.length * i.size) = us := by rw [← hf.1]; exact List.take_length
          obtain ⟨c, rest, h4, h5, hrun⟩ := run_append_grow (ty := o.type) hT hI hz hI' hk' (base := none) (len := 0) (cap := 0) (old := #[]) (by omega) (by simpa using hb1) (by simpa using hb2) hl0 (by simp [Builtin.firstCells]) (hc1 _ (Nat.le_refl _))
          rw [hfull] at hrun
          have hobj : (#[] ++ us.toArray ++ rest.toArray) = (us ++ rest).toArray := by apply Array.ext'; simp
          rw [hobj] at hrun
          simp only [Nat.zero_add] at h4 h5 hrun
          have hsd : Sat1 w0 M N V bs S a w.drew := hs.drew _
          refine wp_value (hex _ _ (by rw [hs0]; exact hrun)) ⟨_, hK, ?_⟩
          refine ((hsd.alloc hnm hnm2 (rowSat_new (t := e) (rest := rest) hf)).put hd (.one ?_)).sat h0 h1
          have := CR.os (V := V) (bs := upd bs nm (some (w.drew.heap.size, (us ++ rest).length))) (p := nm) (k := i.size) (off := 0) (len := news.length) (cap := c) (upd_same _ _ _) h4 (by simp [hf.1, h5, ← Nat.add_mul]; exact Nat.le_of_eq (congrArg (· * i.size) (by omega)))
          simpa using this
      · rename_i p k len hsv
        split at h
        · rename_i k' es hL
          obtain ⟨⟨rfl, rfl, hle⟩, h⟩ := h
          obtain ⟨news, us, ⟨⟨hb1, hb2⟩, hK⟩, hf, hl, _⟩ := srcD_ok hs (hev x) h
          obtain ⟨hl0, hc0⟩ := hl w fun _ => rfl
          obtain ⟨_, hc1⟩ := hl w.drew fun _ => rfl
          have hfull : us.take (news.length * i.size) = us := by rw [← hf.1]; exact List.take_length
          have h2 := hev s; rw [hsv] at h2
          generalize hse : a.eval s = sv at h2
          rw [hse] at hex
          have hcr := vr_one h2
          have hsd : Sat1 w0 M N V bs S a w.drew := hs.drew _
          cases hcr with
          | @os _ _ _ _ b n cap hb hlc hcap =>
            simp only [Nat.zero_mul, Nat.zero_add] at hcap hex
            -- what lies there now
            obtain ⟨hr1, hr2, hr3, hr4⟩ : RowSat V bs w b n (.own i.size es) := by
              rcases hs.rows p _ hL with ⟨b', n', hb', hr⟩ | ⟨hb', _⟩
              · rw [hb] at hb'; simp at hb'; obtain ⟨rfl, rfl⟩ := hb'; exact hr
              · rw [hb] at hb'; simp at hb'
            have htk : ∀ e ∈ es.take len, e.length = i.size := fun e he => by
              obtain ⟨j, hj, rfl⟩ := List.mem_iff_getElem.1 (List.mem_of_mem_take he); exact hr3 j hj
            obtain ⟨old, hfo, holdc⟩ := flat_of (V := V) (w := w) (b := b) (o := 0) htk (fun j m hj hm => by
              have hj' : j < es.length := by simp at hj; omega
              have he : (es.take len)[j] = es[j] := List.getElem_take
              obtain ⟨v, h6, h7⟩ := hr4 j m hj' (by rw [← he]; exact hm)
              exact ⟨v, by simpa using h6, by simp only [he]; exact h7⟩)
            have hlt : (es.take len).length = len := by simp; omega
            have hol : old.length = len * i.size := by rw [hfo.1, hlt]
            have hall := hfo.append hf
            by_cases hfit : len + news.length ≤ cap
            · have hroom : (len + news.length) * i.size ≤ n := Nat.le_trans (Nat.mul_le_mul_right _ hfit) hcap
              have hul : len * i.size + us.length ≤ n := by rw [hf.1, ← Nat.add_mul]; exact hroom
              obtain ⟨w', g1, g2, g3, g4⟩ := run_storeCells (P := P) us w b 0 (len * i.size) (fun j hj => by simpa using hr2 (len * i.size + j) (by omega)) (flat_cells hf)
              simp only [Nat.zero_add] at g3 g4
              have hrun := run_append_fits (ty := o.type) hT hI hI' hk' (b := b) (o := 0) hfit hl0 (hc0 _ (Nat.le_refl _)) (by rw [hfull]; exact g1)
              refine wp_value (hex _ _ hrun) ⟨_, hK, ?_⟩
              have hrow : RowSat V bs w' b n (.own i.size (es.take len ++ news)) := by
                refine ⟨by rw [List.length_append, hlt]; exact hroom, fun j hj => ⟨?_, by rw [g2.frozen]; exact (hr2 j hj).2⟩, fun j hj => hall.2.1 _ (List.getElem_mem hj), fun j m hj hm => ?_⟩
                · by_cases hin : len * i.size ≤ j ∧ j < len * i.size + us.length
                  · obtain ⟨q, rfl⟩ : ∃ q, j = len * i.size + q := ⟨j - len * i.size, by omega⟩
                    rw [g3 q us[q] (List.getElem?_eq_getElem (by omega))]; rfl
                  · rw [g4 j (by omega)]; exact (hr2 j hj).1
                · obtain ⟨u, h6, h7⟩ := hall.2.2 j m hj hm
                  refine ⟨u, ?_, h7⟩
                  by_cases hin : j * i.size + m < len * i.size
                  · rw [g4 _ (.inl (by omega))]
                    rw [List.getElem?_append_left (by omega)] at h6
                    simpa using holdc _ _ h6
                  · rw [List.getElem?_append_right (by omega), hol] at h6
                    have := g3 _ _ h6
                    rwa [show len * i.size + (j * i.size + m - len * i.size) = j * i.size + m by omega] at this
              have hfin := (hs.wrote hb g2 hrow).killed p
              rw [show ({ S with L := upd S.L p (some (.own i.size (es.take len ++ news))) } : St).kill p = (S.kill p).new p (.own i.size (es.take len ++ news)) from kill_new] at hfin
              refine ((hfin.mov p).put hd (.one ?_)).sat h0 h1
              have := CR.os (V := V) (bs := bs) (p := p) (k := i.size) (off := 0) (len := len + news.length) (cap := cap) hb hfit (by simpa using hcap)
              simpa using this
            · have hold : (Builtin.firstCells i.size len (.slice (some ⟨b, 0, none⟩) len cap)).run P w.drew = .ok old.toArray w.drew := by
                have := run_loadCells_list (P := P) w.drew ⟨b, 0, none⟩ old (fun j u hj => by rw [add_eq]; simpa using holdc j u hj)
                rw [hol] at this
                simpa [Builtin.firstCells] using this
              obtain ⟨c, rest, h4, h5, hrun⟩ := run_append_grow (ty := o.type) hT hI hz hI' hk' (by omega) hb1 hb2 hl0 hold (hc1 _ (Nat.le_refl _))
              rw [hfull] at hrun
              have hobj : (old.toArray ++ us.toArray ++ rest.toArray) = ((old ++ us) ++ rest).toArray := by apply Array.ext'; simp
              rw [hobj] at hrun
              refine wp_value (hex _ _ hrun) ⟨_, hK, ?_⟩
              refine ((hsd.moved (rowSat_new (t := e) (rest := rest) hall)).put hd (.one ?_)).sat h0 h1
              have := CR.os (V := V) (bs := upd bs p (some (w.drew.heap.size, ((old ++ us) ++ rest).length))) (p := p) (k := i.size) (off := 0) (len := len + news.length) (cap := c) (upd_same _ _ _) h4
                (by simp only [List.length_append, hol, hf.1, h5, Nat.zero_add, ← Nat.add_mul]; exact Nat.le_of_eq (congrArg (· * i.size) (by omega)))
              simpa using this
          | oszero =>
            rename_i ad
            by_cases hne : news = []
            · subst hne
              have hrun := run_append_nothing (ty := o.type) hT hI hI' hk' (ad := ad) (cap := 0) (by simpa using hl0) (by simpa using hc0 0 (by simp))
              refine wp_value (hex _ _ hrun) ⟨_, hK, ?_⟩
              have hfin := (hs.shrink hL 0).killed p
              rw [kill_new] at hfin
              have he : es.take 0 ++ [] = es.take 0 := by simp
              rw [he]
              exact ((hfin.mov p).put hd (.one .oszero)).sat h0 h1
            · have hpos : 0 < news.length := by cases news with | nil => exact absurd rfl hne | cons _ _ => simp
              obtain ⟨c, rest, h4, h5, hrun⟩ := run_append_grow (ty := o.type) hT hI hz hI' hk' (base := ad) (len := 0) (cap := 0) (old := #[]) (by omega) hb1 hb2 hl0 (by cases ad <;> simp [Builtin.firstCells, loadCells, loadCellsFrom]) (hc1 _ (Nat.le_refl _))
              rw [hfull] at hrun
              have hobj : (#[] ++ us.toArray ++ rest.toArray) = (us ++ rest).toArray := by apply Array.ext'; simp
              rw [hobj] at hrun
              refine wp_value (hex _ _ hrun) ⟨_, hK, ?_⟩
              have he : es.take 0 ++ news = news := by simp
              rw [he]
              refine ((hsd.moved (rowSat_new (t := e) (rest := rest) hf)).put hd (.one ?_)).sat h0 h1
              have := CR.os (V := V) (bs := upd bs p (some (w.drew.heap.size, (us ++ rest).length))) (p := p) (k := i.size) (off := 0) (len := 0 + news.length) (cap := c) (upd_same _ _ _) h4
                (by simp only [List.length_append, hf.1, h5, Nat.zero_add, ← Nat.add_mul]; exact Nat.le_of_eq (congrArg (· * i.size) (by omega)))
              simpa using this
        · exact h.elim
      · rename_i p off k n hsv
        split at h
        · rename_i cs hL
          split at h
          · rename_i ds hds
            obtain ⟨⟨rfl, hdl, hnm, hnm2⟩, h⟩ := h
            obtain ⟨news, us, ⟨⟨hpos, hb1, hb2⟩, hK⟩, hf, hl, _⟩ := srcD_ok hs (hev x) h
            obtain ⟨hl0, hc0⟩ := hl w fun _ => rfl
            obtain ⟨_, hc1⟩ := hl w.drew fun _ => rfl
            have hfull : us.take (news.length * i.size) = us := by rw [← hf.1]; exact List.take_length
            have h2 := hev s; rw [hsv] at h2
            generalize hse : a.eval s = sv at h2
            rw [hse] at hex
            have hcr := vr_one h2
            have hsd : Sat1 w0 M N V bs S a w.drew := hs.drew _
            cases hcr with
            | @sb _ _ _ _ b m hb =>
              obtain ⟨hn, hfz, vs, hvs, hcell⟩ : RowSat V bs w b m (.box cs) := by
                rcases hs.rows p _ hL with ⟨b', n', hb', hr⟩ | ⟨_, k, hk⟩
                · rw [hb] at hb'; simp at hb'; obtain ⟨rfl, rfl⟩ := hb'; exact hr
                · simp at hk
              have hrd := cvDs_ok ((hvs.drop off).take (n * i.size)) hds
              have hfo := chunks_flat i.size n ds _ hrd hdl
              have hol : ((vs.drop off).take (n * i.size)).length = n * i.size := by rw [hfo.1, chunks_length]
              have hold : (Builtin.firstCells i.size n (.slice (some ⟨b, off, none⟩) n n)).run P w.drew = .ok ((vs.drop off).take (n * i.size)).toArray w.drew := by
                have := run_loadCells_list (P := P) w.drew ⟨b, off, none⟩ ((vs.drop off).take (n * i.size)) (fun j u hj => by
                  rw [add_eq]
                  rw [List.getElem?_take] at hj
                  split at hj
                  · rw [List.getElem?_drop] at hj
                    exact hcell _ _ hj
                  · simp at hj)
                rw [hol] at this
                simpa [Builtin.firstCells] using this
              obtain ⟨c, rest, h4, h5, hrun⟩ := run_append_grow (ty := o.type) hT hI hz hI' hk' (by omega) hb1 hb2 hl0 hold (hc1 _ (Nat.le_refl _))
              rw [hfull] at hrun
              have hall := hfo.append hf
              have hobj : (((vs.drop off).take (n * i.size)).toArray ++ us.toArray ++ rest.toArray) = ((((vs.drop off).take (n * i.size)) ++ us) ++ rest).toArray := by apply Array.ext'; simp
              rw [hobj] at hrun
              refine wp_value (hex _ _ hrun) ⟨_, hK, ?_⟩
              refine ((hsd.alloc hnm hnm2 (rowSat_new (t := e) (rest := rest) hall)).put hd (.one ?_)).sat h0 h1
              have := CR.os (V := V) (bs := upd bs nm (some (w.drew.heap.size, (((vs.drop off).take (n * i.size) ++ us) ++ rest).length))) (p := nm) (k := i.size) (off := 0) (len := n + news.length) (cap := c) (upd_same _ _ _) h4
                (by simp only [List.length_append, hol, hf.1, h5, Nat.zero_add, ← Nat.add_mul]; exact Nat.le_of_eq (congrArg (· * i.size) (by omega)))
              simpa using this
          · exact h.elim
        · exact h.elim
      · exact h.elim
    · exact h.elim
  · exact h.elim
end
end Go.Proofs.Ytoklfidamhigcaa.D
