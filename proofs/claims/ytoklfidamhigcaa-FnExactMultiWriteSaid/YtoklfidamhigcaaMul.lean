/- States of several entries: in order, or not. -/
import Derived.Test.YtoklfidamhigcaaOp
namespace Go.Proofs.Ytoklfidamhigcaa.D
open Go.RowKit
set_option maxRecDepth 100000
set_option maxHeartbeats 4000000
set_option linter.unusedVariables false
set_option linter.unusedSimpArgs false

structure EntV where
  t : Int
  a : Int
  x : List UInt8
abbrev entD (e : EntV) : List DV := [.sc (.int .i64 e.t), .sc (.int .i64 e.a), .sc (.string (bs e.x))]
abbrev cE (l : List EntV) : CV := .dv (.sl (l.map entD))
abbrev vE (l : List EntV) : SV := .one (cE l)
abbrev vM (s : List Int) (l : List EntV) : SV := .agg [cN s, cE l]
theorem flat_en (l : List EntV) : flatEs (l.map entD) := fun e he d hd => by
  obtain ⟨b, _, rfl⟩ := List.mem_map.1 he
  simp at hd
  rcases hd with rfl | rfl | rfl <;> rfl
theorem len_en (l : List EntV) : ∀ e ∈ l.map entD, e.length = 3 := all_map _ _ _ fun _ => rfl
/-- One entry of a list, in order under what was seen. -/
def gd (s : List Int) (l : List EntV) (j : Nat) (h : j < l.length) : Prop :=
  stOk l[j].t l[j].a ∧ l[j].x.length ≤ 200 ∧ l[j].t ≤ s.getD l[j].a.toNat 0 ∧ (0 < j → stLt (l[j - 1]'(by omega)).t (l[j - 1]'(by omega)).a l[j].t l[j].a)
def StOk (s : List Int) (l : List EntV) : Prop := VecOk s ∧ l.length ≤ 256 ∧ ∀ j (h : j < l.length), gd s l j h
noncomputable instance (s : List Int) (l : List EntV) : Decidable (StOk s l) := Classical.propDecidable _
theorem seen_at {s : List Int} {a : Int} (h : VecOk s) (ha : actOk a) : ∃ hlt : a.toNat < s.length, s.getD a.toNat 0 = s[a.toNat] := by
  have := h.1
  have hlt : a.toNat < s.length := by omega
  exact ⟨hlt, by rw [List.getD_eq_getElem?_getD, List.getElem?_eq_getElem hlt]; rfl⟩
theorem st_no {s : List Int} {l : List EntV} {i : Nat} (h : i < l.length) (hn : ¬ gd s l i h) : ¬ StOk s l := fun hs => hn (hs.2.2 i h)
theorem at_e (l : List EntV) (n : Int) (m : Nat) (h : n = m) (hm : m < l.length) : 0 ≤ n ∧ (l.map entD)[n.toNat]? = some (entD l[m]) := by
  subst h
  exact ⟨by omega, by simp [hm]⟩
theorem at_i (l : List Int) (n : Int) (m : Nat) (h : n = m) (hm : m < l.length) : 0 ≤ n ∧ (l.map inD)[n.toNat]? = some (inD l[m]) := by
  subst h
  exact ⟨by omega, by simp [hm]⟩
theorem i_stateOK (s : List Int) (l : List EntV) (hl : l.length ≤ 2 ^ 62) (hx : ∀ e ∈ l, e.x.length ≤ 2 ^ 62) : CallD Try.prog id_impl_stateOK [vV s, vE l] [] (vB (decide (StOk s l))) [] := by
  refine F_impl_stateOK ?_
  try (conv => whnf)
  by_cases hv : VecOk s
  rotate_left
  · refine Hand.mk [] ?_
    try (conv => whnf)
    refine CallW.d (i_VecOK s) ?_
    try (conv => whnf)
    try (conv => whnf)
    repeat' (first
      | (refine br_dec (fun _ => ?_) (fun _ => ?_) <;> first | (exfalso; omega) | contradiction | conv => whnf)
      | (refine br_not ?_; conv => whnf)
      | (refine br_bne (fun _ => ?_) (fun _ => ?_) <;> first | (exfalso; omega) | contradiction | conv => whnf)
      | (refine br_beq (fun _ => ?_) (fun _ => ?_) <;> first | (exfalso; omega) | contradiction | conv => whnf))
    refine Out.mk true [] [] ?_
    try (conv => whnf)
    exact ⟨dec_f fun h => hv h.1, rfl⟩
  have hv1 := hv.1
  refine Hand.mk [] ?_
  try (conv => whnf)
  refine CallW.d (i_VecOK s) ?_
  try (conv => whnf)
  try (conv => whnf)
  repeat' (first
    | (refine Pick.mk ?_ ?_ ?_; rotate_left; (focus (exact List.length_map _)); conv => whnf)
    | (refine br_dec (fun _ => ?_) (fun _ => ?_) <;> first | (exfalso; omega) | contradiction | conv => whnf)
    | (refine br_not ?_; conv => whnf)
    | (refine br_bne (fun _ => ?_) (fun _ => ?_) <;> first | (exfalso; omega) | contradiction | conv => whnf)
    | (refine br_beq (fun _ => ?_) (fun _ => ?_) <;> first | (exfalso; omega) | contradiction | conv => whnf))
  · refine Out.mk true [] [] ?_
    try (conv => whnf)
    exact ⟨dec_f fun h => by have := h.2.1; omega, rfl⟩
  refine LoopE.mk (fun i : Nat => mk [(1, vE l), (2, .one (.ptr 4096 0)), (15, vE l), (16, vI .i64 l.length), (17, vI .i64 i)] [(4096, .box [cN s])]) (fun i => i ≤ l.length ∧ ∀ j (h : j < l.length), j < i → gd s l j h) (fun i => l.length - i) 0 ⟨by omega, by omega⟩ (LeX.of ?_) ?_
  · try (conv => whnf)
    repeat (refine Need.mk ?_ ?_; (focus (first | omega | (simp; done))); conv => whnf)
    trivial
  · intro i ⟨hi, hg⟩
    rcases Nat.lt_or_ge i l.length with hlt | hge
    · have hxi := hx _ (List.getElem_mem hlt)
      have p0 := at_e l (i : Int) i rfl hlt
      by_cases h1 : stOk l[i].t l[i].a
      · obtain ⟨⟨t1, t2⟩, a1, a2⟩ := id h1
        obtain ⟨hs1, hs2⟩ := seen_at hv ⟨a1, a2⟩
        have p1 := at_i s l[i].a l[i].a.toNat (by omega) hs1
        try (conv => whnf)
        repeat' (first
          | (refine Pick.mk ?_ ?_ ?_; rotate_left; (focus (assumption)); conv => whnf)
          | (refine SeqJ.thru ?_; conv => whnf)
          | (refine br_dec (fun _ => ?_) (fun _ => ?_) <;> first | (exfalso; omega) | contradiction | conv => whnf)
          | (refine br_not ?_; conv => whnf)
          | (refine br_bne (fun _ => ?_) (fun _ => ?_) <;> first | (exfalso; omega) | contradiction | conv => whnf)
          | (refine br_beq (fun _ => ?_) (fun _ => ?_) <;> first | (exfalso; omega) | contradiction | conv => whnf))
        refine Hand.mk [] ?_
        try (conv => whnf)
        refine CallW.d (i_StampOK l[i].t l[i].a) ?_
        try (conv => whnf)
        rcases Nat.eq_zero_or_pos i with h0 | h0
        · try (conv => whnf)
          repeat' (first
            | (refine Pick.mk ?_ ?_ ?_; rotate_left; (focus (first | assumption | exact size_bs _ | (refine wid ?_ ?_ <;> omega))); conv => whnf)
            | (refine br_dec (fun _ => ?_) (fun _ => ?_) <;> first | (exfalso; omega) | contradiction | conv => whnf)
            | (refine br_not ?_; conv => whnf)
            | (refine br_bne (fun _ => ?_) (fun _ => ?_) <;> first | (exfalso; omega) | contradiction | conv => whnf)
            | (refine br_beq (fun _ => ?_) (fun _ => ?_) <;> first | (exfalso; omega) | contradiction | conv => whnf))
          all_goals first
            | skip
              refine Out.mk true [] [] ?_
              try (conv => whnf)
              exact ⟨dec_f (st_no hlt fun g => by have g1 := g.2.1; have g2 := g.2.2.1; rw [hs2] at g2; omega), rfl⟩
            | skip
              have G : gd s l i hlt := ⟨h1, by omega, by rw [hs2]; omega, (fun h => absurd h (by omega))⟩
              refine Pick.mk (i + 1) ⟨⟨by omega, fun j h hj => ?_⟩, by omega⟩ (LeX.of ?_)
              · rcases Nat.lt_or_ge j i with h9 | h9
                · exact hg j h h9
                · obtain rfl : j = i := by omega
                  exact G
              · try (conv => whnf)
                repeat (refine Need.mk ?_ ?_; (focus (first | omega | (simp; done))); conv => whnf)
                trivial
        · have p2 := at_e l ((i : Int) - 1) (i - 1) (by omega) (by omega)
          by_cases h2 : stLt (l[i - 1]'(by omega)).t (l[i - 1]'(by omega)).a l[i].t l[i].a
          · try (conv => whnf)
            repeat' (first
              | (refine Pick.mk ?_ ?_ ?_; rotate_left; (focus (first | assumption | exact size_bs _ | (refine wid ?_ ?_ <;> omega))); conv => whnf)
              | (refine br_dec (fun _ => ?_) (fun _ => ?_) <;> first | (exfalso; omega) | contradiction | conv => whnf)
              | (refine br_not ?_; conv => whnf)
              | (refine br_bne (fun _ => ?_) (fun _ => ?_) <;> first | (exfalso; omega) | contradiction | conv => whnf)
              | (refine br_beq (fun _ => ?_) (fun _ => ?_) <;> first | (exfalso; omega) | contradiction | conv => whnf))
            all_goals first
              | skip
                refine Out.mk true [] [] ?_
                try (conv => whnf)
                exact ⟨dec_f (st_no hlt fun g => by have g1 := g.2.1; have g2 := g.2.2.1; rw [hs2] at g2; omega), rfl⟩
              | skip
                refine Hand.mk [] ?_
                try (conv => whnf)
                refine CallW.d (i_StampLess (l[i - 1]'(by omega)).t (l[i - 1]'(by omega)).a l[i].t l[i].a) ?_
                try (conv => whnf)
                try (conv => whnf)
                repeat' (first
                  | (refine Pick.mk ?_ ?_ ?_; rotate_left; (focus ((refine wid ?_ ?_ <;> omega))); conv => whnf)
                  | (refine br_dec (fun _ => ?_) (fun _ => ?_) <;> first | (exfalso; omega) | contradiction | conv => whnf)
                  | (refine br_not ?_; conv => whnf)
                  | (refine br_bne (fun _ => ?_) (fun _ => ?_) <;> first | (exfalso; omega) | contradiction | conv => whnf)
                  | (refine br_beq (fun _ => ?_) (fun _ => ?_) <;> first | (exfalso; omega) | contradiction | conv => whnf))
                have G : gd s l i hlt := ⟨h1, by omega, by rw [hs2]; omega, (fun _ => h2)⟩
                refine Pick.mk (i + 1) ⟨⟨by omega, fun j h hj => ?_⟩, by omega⟩ (LeX.of ?_)
                · rcases Nat.lt_or_ge j i with h9 | h9
                  · exact hg j h h9
                  · obtain rfl : j = i := by omega
                    exact G
                · try (conv => whnf)
                  repeat (refine Need.mk ?_ ?_; (focus (first | omega | (simp; done))); conv => whnf)
                  trivial
          · try (conv => whnf)
            repeat' (first
              | (refine Pick.mk ?_ ?_ ?_; rotate_left; (focus (first | assumption | exact size_bs _ | (refine wid ?_ ?_ <;> omega))); conv => whnf)
              | (refine br_dec (fun _ => ?_) (fun _ => ?_) <;> first | (exfalso; omega) | contradiction | conv => whnf)
              | (refine br_not ?_; conv => whnf)
              | (refine br_bne (fun _ => ?_) (fun _ => ?_) <;> first | (exfalso; omega) | contradiction | conv => whnf)
              | (refine br_beq (fun _ => ?_) (fun _ => ?_) <;> first | (exfalso; omega) | contradiction | conv => whnf))
            all_goals first
              | skip
                refine Out.mk true [] [] ?_
                try (conv => whnf)
                exact ⟨dec_f (st_no hlt fun g => by have g1 := g.2.1; have g2 := g.2.2.1; rw [hs2] at g2; omega), rfl⟩
              | skip
                refine Hand.mk [] ?_
                try (conv => whnf)
                refine CallW.d (i_StampLess (l[i - 1]'(by omega)).t (l[i - 1]'(by omega)).a l[i].t l[i].a) ?_
                try (conv => whnf)
                try (conv => whnf)
                repeat' (first
                  | (refine br_dec (fun _ => ?_) (fun _ => ?_) <;> first | (exfalso; omega) | contradiction | conv => whnf)
                  | (refine br_not ?_; conv => whnf)
                  | (refine br_bne (fun _ => ?_) (fun _ => ?_) <;> first | (exfalso; omega) | contradiction | conv => whnf)
                  | (refine br_beq (fun _ => ?_) (fun _ => ?_) <;> first | (exfalso; omega) | contradiction | conv => whnf))
                refine Out.mk true [] [] ?_
                try (conv => whnf)
                exact ⟨dec_f (st_no hlt fun g => h2 (g.2.2.2 h0)), rfl⟩
      · try (conv => whnf)
        repeat' (first
          | (refine Pick.mk ?_ ?_ ?_; rotate_left; (focus (assumption)); conv => whnf)
          | (refine SeqJ.thru ?_; conv => whnf)
          | (refine br_dec (fun _ => ?_) (fun _ => ?_) <;> first | (exfalso; omega) | contradiction | conv => whnf)
          | (refine br_not ?_; conv => whnf)
          | (refine br_bne (fun _ => ?_) (fun _ => ?_) <;> first | (exfalso; omega) | contradiction | conv => whnf)
          | (refine br_beq (fun _ => ?_) (fun _ => ?_) <;> first | (exfalso; omega) | contradiction | conv => whnf))
        refine Hand.mk [] ?_
        try (conv => whnf)
        refine CallW.d (i_StampOK l[i].t l[i].a) ?_
        try (conv => whnf)
        try (conv => whnf)
        repeat' (first
          | (refine br_dec (fun _ => ?_) (fun _ => ?_) <;> first | (exfalso; omega) | contradiction | conv => whnf)
          | (refine br_not ?_; conv => whnf)
          | (refine br_bne (fun _ => ?_) (fun _ => ?_) <;> first | (exfalso; omega) | contradiction | conv => whnf)
          | (refine br_beq (fun _ => ?_) (fun _ => ?_) <;> first | (exfalso; omega) | contradiction | conv => whnf))
        refine Out.mk true [] [] ?_
        try (conv => whnf)
        exact ⟨dec_f (st_no hlt fun g => h1 g.1), rfl⟩
    · try (conv => whnf)
      repeat' (first
        | (refine SeqJ.thru ?_; conv => whnf)
        | (refine br_dec (fun _ => ?_) (fun _ => ?_) <;> first | (exfalso; omega) | contradiction | conv => whnf)
        | (refine br_not ?_; conv => whnf)
        | (refine br_bne (fun _ => ?_) (fun _ => ?_) <;> first | (exfalso; omega) | contradiction | conv => whnf)
        | (refine br_beq (fun _ => ?_) (fun _ => ?_) <;> first | (exfalso; omega) | contradiction | conv => whnf))
      refine Out.mk true [] [] ?_
      try (conv => whnf)
      exact ⟨dec_t ⟨hv, by omega, fun j h => hg j h (by omega)⟩, rfl⟩
theorem s_l03EntriesOK (s : List Int) (l : List EntV) (hl : l.length ≤ 2 ^ 62) (hx : ∀ e ∈ l, e.x.length ≤ 2 ^ 62) : CallD Try.prog id_spec_l03EntriesOK [vV s, vE l] [] (vB (decide (StOk s l))) [] := by
  refine F_spec_l03EntriesOK ?_
  try (conv => whnf)
  by_cases hv : VecOk s
  rotate_left
  · refine Hand.mk [] ?_
    try (conv => whnf)
    refine CallW.d (s_VecOK s) ?_
    try (conv => whnf)
    try (conv => whnf)
    repeat' (first
      | (refine br_dec (fun _ => ?_) (fun _ => ?_) <;> first | (exfalso; omega) | contradiction | conv => whnf)
      | (refine br_not ?_; conv => whnf)
      | (refine br_bne (fun _ => ?_) (fun _ => ?_) <;> first | (exfalso; omega) | contradiction | conv => whnf)
      | (refine br_beq (fun _ => ?_) (fun _ => ?_) <;> first | (exfalso; omega) | contradiction | conv => whnf))
    refine Out.mk true [] [] ?_
    try (conv => whnf)
    exact ⟨dec_f fun h => hv h.1, rfl⟩
  have hv1 := hv.1
  refine Hand.mk [] ?_
  try (conv => whnf)
  refine CallW.d (s_VecOK s) ?_
  try (conv => whnf)
  try (conv => whnf)
  repeat' (first
    | (refine Pick.mk ?_ ?_ ?_; rotate_left; (focus (exact List.length_map _)); conv => whnf)
    | (refine br_dec (fun _ => ?_) (fun _ => ?_) <;> first | (exfalso; omega) | contradiction | conv => whnf)
    | (refine br_not ?_; conv => whnf)
    | (refine br_bne (fun _ => ?_) (fun _ => ?_) <;> first | (exfalso; omega) | contradiction | conv => whnf)
    | (refine br_beq (fun _ => ?_) (fun _ => ?_) <;> first | (exfalso; omega) | contradiction | conv => whnf))
  · refine Out.mk true [] [] ?_
    try (conv => whnf)
    exact ⟨dec_f fun h => by have := h.2.1; omega, rfl⟩
  refine LoopE.mk (fun i : Nat => mk [(1, vE l), (2, .one (.ptr 4096 0)), (5, vI .i64 i)] [(4096, .box [cN s])]) (fun i => i ≤ l.length ∧ ∀ j (h : j < l.length), j < i → gd s l j h) (fun i => l.length - i) 0 ⟨by omega, by omega⟩ (LeX.of ?_) ?_
  · try (conv => whnf)
    repeat (refine Need.mk ?_ ?_; (focus (first | omega | (simp; done))); conv => whnf)
    trivial
  · intro i ⟨hi, hg⟩
    rcases Nat.lt_or_ge i l.length with hlt | hge
    · have hxi := hx _ (List.getElem_mem hlt)
      have p0 := at_e l (i : Int) i rfl hlt
      by_cases h1 : stOk l[i].t l[i].a
      · obtain ⟨⟨t1, t2⟩, a1, a2⟩ := id h1
        obtain ⟨hs1, hs2⟩ := seen_at hv ⟨a1, a2⟩
        have p1 := at_i s l[i].a l[i].a.toNat (by omega) hs1
        try (conv => whnf)
        repeat' (first
          | (refine Pick.mk ?_ ?_ ?_; rotate_left; (focus (first | assumption | exact List.length_map _)); conv => whnf)
          | (refine SeqJ.thru ?_; conv => whnf)
          | (refine br_dec (fun _ => ?_) (fun _ => ?_) <;> first | (exfalso; omega) | contradiction | conv => whnf)
          | (refine br_not ?_; conv => whnf)
          | (refine br_bne (fun _ => ?_) (fun _ => ?_) <;> first | (exfalso; omega) | contradiction | conv => whnf)
          | (refine br_beq (fun _ => ?_) (fun _ => ?_) <;> first | (exfalso; omega) | contradiction | conv => whnf))
        refine Hand.mk [] ?_
        try (conv => whnf)
        refine CallW.d (s_StampOK l[i].t l[i].a) ?_
        try (conv => whnf)
        rcases Nat.eq_zero_or_pos i with h0 | h0
        · try (conv => whnf)
          repeat' (first
            | (refine Pick.mk ?_ ?_ ?_; rotate_left; (focus (first | assumption | exact size_bs _ | (refine wid ?_ ?_ <;> omega))); conv => whnf)
            | (refine br_dec (fun _ => ?_) (fun _ => ?_) <;> first | (exfalso; omega) | contradiction | conv => whnf)
            | (refine br_not ?_; conv => whnf)
            | (refine br_bne (fun _ => ?_) (fun _ => ?_) <;> first | (exfalso; omega) | contradiction | conv => whnf)
            | (refine br_beq (fun _ => ?_) (fun _ => ?_) <;> first | (exfalso; omega) | contradiction | conv => whnf))
          all_goals first
            | skip
              refine Out.mk true [] [] ?_
              try (conv => whnf)
              exact ⟨dec_f (st_no hlt fun g => by have g1 := g.2.1; have g2 := g.2.2.1; rw [hs2] at g2; omega), rfl⟩
            | skip
              have G : gd s l i hlt := ⟨h1, by omega, by rw [hs2]; omega, (fun h => absurd h (by omega))⟩
              refine Pick.mk (i + 1) ⟨⟨by omega, fun j h hj => ?_⟩, by omega⟩ (LeX.of ?_)
              · rcases Nat.lt_or_ge j i with h9 | h9
                · exact hg j h h9
                · obtain rfl : j = i := by omega
                  exact G
              · try (conv => whnf)
                repeat (refine Need.mk ?_ ?_; (focus (first | omega | (simp; done))); conv => whnf)
                trivial
        · have p2 := at_e l ((i : Int) - 1) (i - 1) (by omega) (by omega)
          by_cases h2 : stLt (l[i - 1]'(by omega)).t (l[i - 1]'(by omega)).a l[i].t l[i].a
          · try (conv => whnf)
            repeat' (first
              | (refine Pick.mk ?_ ?_ ?_; rotate_left; (focus (first | assumption | exact size_bs _ | (refine wid ?_ ?_ <;> omega))); conv => whnf)
              | (refine br_dec (fun _ => ?_) (fun _ => ?_) <;> first | (exfalso; omega) | contradiction | conv => whnf)
              | (refine br_not ?_; conv => whnf)
              | (refine br_bne (fun _ => ?_) (fun _ => ?_) <;> first | (exfalso; omega) | contradiction | conv => whnf)
              | (refine br_beq (fun _ => ?_) (fun _ => ?_) <;> first | (exfalso; omega) | contradiction | conv => whnf))
            all_goals first
              | skip
                refine Out.mk true [] [] ?_
                try (conv => whnf)
                exact ⟨dec_f (st_no hlt fun g => by have g1 := g.2.1; have g2 := g.2.2.1; rw [hs2] at g2; omega), rfl⟩
              | skip
                refine Hand.mk [] ?_
                try (conv => whnf)
                refine CallW.d (s_StampLess (l[i - 1]'(by omega)).t (l[i - 1]'(by omega)).a l[i].t l[i].a) ?_
                try (conv => whnf)
                try (conv => whnf)
                repeat' (first
                  | (refine Pick.mk ?_ ?_ ?_; rotate_left; (focus ((refine wid ?_ ?_ <;> omega))); conv => whnf)
                  | (refine br_dec (fun _ => ?_) (fun _ => ?_) <;> first | (exfalso; omega) | contradiction | conv => whnf)
                  | (refine br_not ?_; conv => whnf)
                  | (refine br_bne (fun _ => ?_) (fun _ => ?_) <;> first | (exfalso; omega) | contradiction | conv => whnf)
                  | (refine br_beq (fun _ => ?_) (fun _ => ?_) <;> first | (exfalso; omega) | contradiction | conv => whnf))
                have G : gd s l i hlt := ⟨h1, by omega, by rw [hs2]; omega, (fun _ => h2)⟩
                refine Pick.mk (i + 1) ⟨⟨by omega, fun j h hj => ?_⟩, by omega⟩ (LeX.of ?_)
                · rcases Nat.lt_or_ge j i with h9 | h9
                  · exact hg j h h9
                  · obtain rfl : j = i := by omega
                    exact G
                · try (conv => whnf)
                  repeat (refine Need.mk ?_ ?_; (focus (first | omega | (simp; done))); conv => whnf)
                  trivial
          · try (conv => whnf)
            repeat' (first
              | (refine Pick.mk ?_ ?_ ?_; rotate_left; (focus (first | assumption | exact size_bs _ | (refine wid ?_ ?_ <;> omega))); conv => whnf)
              | (refine br_dec (fun _ => ?_) (fun _ => ?_) <;> first | (exfalso; omega) | contradiction | conv => whnf)
              | (refine br_not ?_; conv => whnf)
              | (refine br_bne (fun _ => ?_) (fun _ => ?_) <;> first | (exfalso; omega) | contradiction | conv => whnf)
              | (refine br_beq (fun _ => ?_) (fun _ => ?_) <;> first | (exfalso; omega) | contradiction | conv => whnf))
            all_goals first
              | skip
                refine Out.mk true [] [] ?_
                try (conv => whnf)
                exact ⟨dec_f (st_no hlt fun g => by have g1 := g.2.1; have g2 := g.2.2.1; rw [hs2] at g2; omega), rfl⟩
              | skip
                refine Hand.mk [] ?_
                try (conv => whnf)
                refine CallW.d (s_StampLess (l[i - 1]'(by omega)).t (l[i - 1]'(by omega)).a l[i].t l[i].a) ?_
                try (conv => whnf)
                try (conv => whnf)
                repeat' (first
                  | (refine br_dec (fun _ => ?_) (fun _ => ?_) <;> first | (exfalso; omega) | contradiction | conv => whnf)
                  | (refine br_not ?_; conv => whnf)
                  | (refine br_bne (fun _ => ?_) (fun _ => ?_) <;> first | (exfalso; omega) | contradiction | conv => whnf)
                  | (refine br_beq (fun _ => ?_) (fun _ => ?_) <;> first | (exfalso; omega) | contradiction | conv => whnf))
                refine Out.mk true [] [] ?_
                try (conv => whnf)
                exact ⟨dec_f (st_no hlt fun g => h2 (g.2.2.2 h0)), rfl⟩
      · try (conv => whnf)
        repeat' (first
          | (refine Pick.mk ?_ ?_ ?_; rotate_left; (focus (first | assumption | exact List.length_map _)); conv => whnf)
          | (refine SeqJ.thru ?_; conv => whnf)
          | (refine br_dec (fun _ => ?_) (fun _ => ?_) <;> first | (exfalso; omega) | contradiction | conv => whnf)
          | (refine br_not ?_; conv => whnf)
          | (refine br_bne (fun _ => ?_) (fun _ => ?_) <;> first | (exfalso; omega) | contradiction | conv => whnf)
          | (refine br_beq (fun _ => ?_) (fun _ => ?_) <;> first | (exfalso; omega) | contradiction | conv => whnf))
        refine Hand.mk [] ?_
        try (conv => whnf)
        refine CallW.d (s_StampOK l[i].t l[i].a) ?_
        try (conv => whnf)
        try (conv => whnf)
        repeat' (first
          | (refine br_dec (fun _ => ?_) (fun _ => ?_) <;> first | (exfalso; omega) | contradiction | conv => whnf)
          | (refine br_not ?_; conv => whnf)
          | (refine br_bne (fun _ => ?_) (fun _ => ?_) <;> first | (exfalso; omega) | contradiction | conv => whnf)
          | (refine br_beq (fun _ => ?_) (fun _ => ?_) <;> first | (exfalso; omega) | contradiction | conv => whnf))
        refine Out.mk true [] [] ?_
        try (conv => whnf)
        exact ⟨dec_f (st_no hlt fun g => h1 g.1), rfl⟩
    · try (conv => whnf)
      repeat' (first
        | (refine Pick.mk ?_ ?_ ?_; rotate_left; (focus (exact List.length_map _)); conv => whnf)
        | (refine br_dec (fun _ => ?_) (fun _ => ?_) <;> first | (exfalso; omega) | contradiction | conv => whnf)
        | (refine br_not ?_; conv => whnf)
        | (refine br_bne (fun _ => ?_) (fun _ => ?_) <;> first | (exfalso; omega) | contradiction | conv => whnf)
        | (refine br_beq (fun _ => ?_) (fun _ => ?_) <;> first | (exfalso; omega) | contradiction | conv => whnf))
      refine Out.mk true [] [] ?_
      try (conv => whnf)
      exact ⟨dec_t ⟨hv, by omega, fun j h => hg j h (by omega)⟩, rfl⟩
end Go.Proofs.Ytoklfidamhigcaa.D
