/- What a slice holds, as a source; append. -/
import Derived.Test.YtoklfidamhigcaaDI
namespace Go.Proofs.Ytoklfidamhigcaa.D
open Go.RowKit

def FlatR (V : View) (k : Nat) (es : List (List DV)) (us : List Value) : Prop :=
  us.length = es.length * k ∧ (∀ e ∈ es, e.length = k) ∧ ∀ i j (hi : i < es.length) (hj : j < es[i].length), ∃ u, us[i * k + j]? = some u ∧ Rd V u es[i][j]

theorem FlatR.nil (V : View) (k : Nat) : FlatR V k [] [] := ⟨by simp, by simp, fun i j hi => absurd hi (by simp)⟩
theorem FlatR.append {V : View} {k : Nat} {es es' : List (List DV)} {us us' : List Value} (h : FlatR V k es us) (h' : FlatR V k es' us') : FlatR V k (es ++ es') (us ++ us') := by
  obtain ⟨h1, h2, h3⟩ := h
  obtain ⟨h4, h5, h6⟩ := h'
  refine ⟨by simp [h1, h4, Nat.add_mul], fun e he => (List.mem_append.1 he).elim (h2 e) (h5 e), fun i j hi hj => ?_⟩
  by_cases hlt : i < es.length
  · have he : (es ++ es')[i] = es[i] := List.getElem_append_left hlt
    have hj' : j < es[i].length := by rw [← he]; exact hj
    obtain ⟨u, h7, h8⟩ := h3 i j hlt hj'
    refine ⟨u, ?_, ?_⟩
    · have : i * k + j < us.length := by
        rw [h2 _ (List.getElem_mem hlt)] at hj'
        rw [h1]
        have : (i + 1) * k ≤ es.length * k := Nat.mul_le_mul_right k hlt
        rw [Nat.add_mul] at this; omega
      rw [List.getElem?_append_left this]; exact h7
    · simp only [he]; exact h8
  · have hi' : i - es.length < es'.length := by simp at hi; omega
    have he : (es ++ es')[i] = es'[i - es.length] := List.getElem_append_right (by omega)
    have hj' : j < es'[i - es.length].length := by rw [← he]; exact hj
    obtain ⟨u, h7, h8⟩ := h6 _ j hi' hj'
    refine ⟨u, ?_, ?_⟩
    · have e1 : i * k = es.length * k + (i - es.length) * k := by rw [← Nat.add_mul]; congr 1; omega
      rw [List.getElem?_append_right (by rw [h1, e1]; omega)]
      rw [← h7]; congr 1; rw [h1, e1]; omega
    · simp only [he]; exact h8

theorem flat_of {V : View} {w : World} {b o k : Nat} {es : List (List DV)} (hk : ∀ e ∈ es, e.length = k)
    (h : ∀ i j (hi : i < es.length) (hj : j < es[i].length), ∃ v, w.cell? ⟨b, o + (i * k + j), none⟩ = some v ∧ Rd V v es[i][j]) :
    ∃ us, FlatR V k es us ∧ ∀ j u, us[j]? = some u → w.cell? ⟨b, o + j, none⟩ = some u := by
  have hpos : ∀ j, j < es.length * k → 0 < k ∧ j / k < es.length ∧ j % k < k ∧ j / k * k + j % k = j := fun j hj => by
    have hk0 : 0 < k := by rcases Nat.eq_zero_or_pos k with h | h; rw [h] at hj; simp at hj; exact h
    exact ⟨hk0, Nat.div_lt_of_lt_mul (by rw [Nat.mul_comm]; exact hj), Nat.mod_lt _ hk0, by rw [Nat.mul_comm]; exact Nat.div_add_mod j k⟩
  have hcell : ∀ j, j < es.length * k → ∃ u, w.cell? ⟨b, o + j, none⟩ = some u := fun j hj => by
    obtain ⟨_, h1, h2, h3⟩ := hpos j hj
    obtain ⟨v, h4, _⟩ := h (j / k) (j % k) h1 (by rw [hk _ (List.getElem_mem h1)]; exact h2)
    rw [h3] at h4; exact ⟨v, h4⟩
  refine ⟨(List.range (es.length * k)).map fun j => (w.cell? ⟨b, o + j, none⟩).getD undef, ⟨by simp, hk, fun i j hi hj => ?_⟩, fun j u hj => ?_⟩
  · obtain ⟨v, h1, h2⟩ := h i j hi hj
    have hlt : i * k + j < es.length * k := by
      rw [hk _ (List.getElem_mem hi)] at hj
      have : (i + 1) * k ≤ es.length * k := Nat.mul_le_mul_right k hi
      rw [Nat.add_mul] at this; omega
    exact ⟨v, by simp [hlt, h1], h2⟩
  · simp only [List.getElem?_map, Option.map_eq_some_iff] at hj
    obtain ⟨m, hm, rfl⟩ := hj
    obtain ⟨hm1, hm2⟩ := List.getElem?_eq_some_iff.1 hm
    simp at hm1 hm2; subst hm2
    obtain ⟨u, hu⟩ := hcell j hm1
    simp [hu]

def srcD (S : St) (size : Nat) (v : SV) (K : List (List DV) → Prop) : Prop :=
  match v with
  | .one .nil => K []
  | .one (.dv (.sl es)) => (∀ e ∈ es, e.length = size) ∧ K es
  | .one (.os p k off len) => (match S.L p with | some (.own k' es) => (k = k' ∧ k = size ∧ off + len ≤ es.length) ∧ K ((es.drop off).take len) | _ => False)
  | .one (.dv (.sc (.string s))) => size = 1 ∧ K (s.data.toList.map fun b => [.sc (.int .u8 b.toNat)])
  | _ => False

section
variable {P : Program} {w0 : World} {M : Rows0} {N : Nat} {V : View} {bs : Loc} {S : St} {a : Act} {w : World}

theorem srcD_ok (hs : Sat1 w0 M N V bs S a w) {size : Nat} {sv : SV} {v : Value} (hv : VR V bs sv v) {K : List (List DV) → Prop} (h : srcD S size sv K) :
    ∃ es us, K es ∧ FlatR V size es us ∧ (∀ w' : World, (∀ y, w'.cell? y = w.cell? y) → (Builtin.lenOf v).run P w' = .ok es.length w' ∧ (∀ m, m ≤ es.length → (Builtin.firstCells size m v).run P w' = .ok (us.take (m * size)).toArray w')) ∧
      ((∃ ad cap, v = .slice ad es.length cap) ∨ ∃ s, v = .string s) := by
  have slice : ∀ (es : List (List DV)) (ad : Option Addr) (cap : Nat), (∀ e ∈ es, e.length = size) →
      (es ≠ [] → ∃ b o, ad = some ⟨b, o, none⟩ ∧ ∀ i j (hi : i < es.length) (hj : j < es[i].length), ∃ v, w.cell? ⟨b, o + (i * size + j), none⟩ = some v ∧ Rd V v es[i][j]) →
      ∃ us, FlatR V size es us ∧ (∀ w' : World, (∀ y, w'.cell? y = w.cell? y) → (Builtin.lenOf (.slice ad es.length cap)).run P w' = .ok es.length w' ∧ (∀ m, m ≤ es.length → (Builtin.firstCells size m (.slice ad es.length cap)).run P w' = .ok (us.take (m * size)).toArray w')) := by
    intro es ad cap hk hc
    by_cases hne : es = []
    · subst hne
      refine ⟨[], .nil V size, fun w' hw' => ⟨by simp [Builtin.lenOf], fun m hm => ?_⟩⟩
      simp at hm; subst hm
      cases ad with
      | none => simp [Builtin.firstCells]
      | some x => simp [Builtin.firstCells, loadCells, loadCellsFrom]
    · obtain ⟨b, o, rfl, hcell⟩ := hc hne
      obtain ⟨us, hf, hu⟩ := flat_of hk hcell
      refine ⟨us, hf, fun w' hw' => ⟨by simp [Builtin.lenOf], fun m hm => ?_⟩⟩
      have hl : (us.take (m * size)).length = m * size := by
        rw [List.length_take, hf.1]; exact Nat.min_eq_left (Nat.mul_le_mul_right _ hm)
      have := run_loadCells_list (P := P) w' ⟨b, o, none⟩ (us.take (m * size)) (fun j u hj => by
        rw [add_eq, hw']; refine hu j u ?_
        rw [List.getElem?_take] at hj; split at hj
        · exact hj
        · simp at hj)
      rw [hl] at this
      simpa [Builtin.firstCells] using this
  unfold srcD at h
  split at h
  · have := vr_one hv; cases this
    obtain ⟨us, h1, h2⟩ := slice [] none 0 (by simp) (fun h => absurd rfl h)
    exact ⟨_, us, h, h1, h2, .inl ⟨none, 0, rfl⟩⟩
  · rename_i es
    obtain ⟨hk, h⟩ := h
    have hrd : Rd V v (.sl es) := by have := vr_one hv; cases this; assumption
    obtain ⟨ad, cap, rfl, hcap, hinv⟩ := hrd.inv_k hk
    obtain ⟨us, h1, h2⟩ := slice es ad cap hk (fun hne => by
      obtain ⟨b, o, f, h4, h5, h6⟩ := hinv hne
      refine ⟨b, o, h4, fun i j hi hj => ⟨f i j, ?_, h6 i j hi hj⟩⟩
      have := hs.view _ _ (h5 i j hi (by rw [hk _ (List.getElem_mem hi)] at hj; exact hj))
      rwa [← Nat.add_assoc])
    exact ⟨_, us, h, h1, h2, .inl ⟨ad, cap, rfl⟩⟩
  · rename_i p k off len
    split at h
    · rename_i k' es hL
      obtain ⟨⟨rfl, rfl, hle⟩, h⟩ := h
      have hlen : ((es.drop off).take len).length = len := by simp; omega
      have hcr := vr_one hv
      have hkk : ∀ e ∈ (es.drop off).take len, e.length = k := by
        intro e he
        have hmem : e ∈ es := List.mem_of_mem_drop (List.mem_of_mem_take he)
        rcases hs.rows p _ hL with ⟨b', n', hb', hr⟩ | ⟨hb', k0, hr⟩
        · obtain ⟨i, hi, rfl⟩ := List.mem_iff_getElem.1 hmem
          exact hr.2.2.1 i hi
        · injection hr with _ hr; subst hr; simp at hmem
      cases hcr with
      | @os _ _ _ _ b n cap hb hl hc =>
        obtain ⟨us, h1, h2⟩ := slice ((es.drop off).take len) (some ⟨b, off * k, none⟩) cap hkk (fun hne => ⟨b, off * k, rfl, fun i j hi hj => by
          rcases hs.rows p _ hL with ⟨b', n', hb', hr⟩ | ⟨hb', k0, hr⟩
          · rw [hb] at hb'; simp at hb'; obtain ⟨rfl, rfl⟩ := hb'
            have hi' : off + i < es.length := by omega
            have he : ((es.drop off).take len)[i] = es[off + i] := by simp
            have hj' : j < es[off + i].length := by rw [← he]; exact hj
            obtain ⟨u, h5, h6⟩ := hr.2.2.2 (off + i) j hi' hj'
            refine ⟨u, ?_, ?_⟩
            · rw [show off * k + (i * k + j) = (off + i) * k + j by rw [Nat.add_mul]; omega]; exact h5
            · have h7 : ((es.drop off).take len)[i][j] = es[off + i][j] := by simp
              rw [h7]; exact h6
          · rw [hb] at hb'; simp at hb'⟩)
        rw [hlen] at h2
        exact ⟨_, us, h, h1, by rw [hlen]; exact h2, .inl ⟨_, cap, by rw [hlen]⟩⟩
      | oszero =>
        rename_i ad
        obtain ⟨us, h1, h2⟩ := slice ((es.drop off).take 0) ad 0 (by simp) (fun h => absurd (by simp) h)
        exact ⟨_, us, h, h1, by simpa using h2, .inl ⟨ad, 0, by simp⟩⟩
    · exact h.elim
  · rename_i s
    obtain ⟨rfl, h⟩ := h
    have := vr_sc hv; subst this
    refine ⟨_, s.data.toList.map fun b => .int .u8 b.toNat, h, ⟨by simp, ?_, fun i j hi hj => ?_⟩, fun w' _ => ⟨?_, fun m hm => ?_⟩, .inr ⟨s, rfl⟩⟩
    · intro e he; simp only [List.mem_map] at he; obtain ⟨b, _, rfl⟩ := he; rfl
    · simp at hj; subst hj
      simp at hi
      refine ⟨.int .u8 s.data[i].toNat, by simp [hi], ?_⟩
      simp only [List.getElem_map, List.getElem_cons_zero]
      exact .sc _
    · simp [Builtin.lenOf]
    · simp only [Builtin.firstCells, Sem.run_pure, Nat.mul_one]
      congr 1
      apply Array.ext'
      simp [ByteArray.extract, ByteArray.copySlice]
  · exact h.elim

theorem nextcap_le {n c : Nat} (h : c < n) : Builtin.nextslicecap n c ≤ 2 * n + 1024 := by
  unfold Builtin.nextslicecap
  split
  · omega
  · split
    · omega
    · simp only [Builtin.growBy]
      repeat' split
      all_goals omega
end
end Go.Proofs.Ytoklfidamhigcaa.D
