/- Operations told to be in order, by both. -/
import Derived.Test.YtoklfidamhigcaaOp
namespace Go.Proofs.Ytoklfidamhigcaa.D
open Go.RowKit
set_option maxRecDepth 100000
set_option maxHeartbeats 4000000
set_option linter.unusedVariables false
set_option linter.unusedSimpArgs false

theorem own_at {o : OpV} (h : VecOk o.deps) (ha : actOk o.actor) : ∃ hlt : o.actor.toNat < o.deps.length, o.deps.getD o.actor.toNat 0 = o.deps[o.actor.toNat] := by
  have := h.1
  refine ⟨by omega, ?_⟩
  simp [List.getD, show o.actor.toNat < o.deps.length by omega]
theorem i_opOK (o : OpV) (hk : o.key.length ≤ 2 ^ 40) (ht : o.text.length ≤ 2 ^ 40) : CallD Try.prog id_impl_opOK [vO o] [] (vB (decide (OpOk o))) [] := by
  refine F_impl_opOK ?_
  try (conv => whnf)
  refine Hand.mk [] ?_
  try (conv => whnf)
  refine CallW.d (i_stamp o) ?_
  try (conv => whnf)
  refine Hand.mk [] ?_
  try (conv => whnf)
  refine CallW.d (i_StampOK o.time o.actor) ?_
  try (conv => whnf)
  by_cases hst : stOk o.time o.actor
  · obtain ⟨⟨t1, t2⟩, a1, a2⟩ := id hst
    by_cases hv : VecOk o.deps
    · have hvl := hv.1
      obtain ⟨hlt, hown⟩ := own_at hv ⟨a1, a2⟩
      try (conv => whnf)
      repeat' (first
        | (refine br_dec (fun _ => ?_) (fun _ => ?_) <;> first | (exfalso; omega) | contradiction | conv => whnf)
        | (refine br_not ?_; conv => whnf)
        | (refine br_bne (fun _ => ?_) (fun _ => ?_) <;> first | (exfalso; omega) | contradiction | conv => whnf)
        | (refine br_beq (fun _ => ?_) (fun _ => ?_) <;> first | (exfalso; omega) | contradiction | conv => whnf))
      rotate_left 2
      · refine Hand.mk [] ?_
        try (conv => whnf)
        refine CallW.d (i_VecOK o.deps) ?_
        try (conv => whnf)
        try (conv => whnf)
        repeat' (first
          | (refine Pick.mk ?_ ?_ ?_; rotate_left; (focus (first | exact size_bs _ | (refine wid ?_ ?_ <;> omega) | (refine pick_int _ _ _ ?_ ?_ <;> omega))); conv => whnf)
          | (refine br_dec (fun _ => ?_) (fun _ => ?_) <;> first | (exfalso; omega) | contradiction | conv => whnf)
          | (refine br_not ?_; conv => whnf)
          | (refine br_bne (fun _ => ?_) (fun _ => ?_) <;> first | (exfalso; omega) | contradiction | conv => whnf)
          | (refine br_beq (fun _ => ?_) (fun _ => ?_) <;> first | (exfalso; omega) | contradiction | conv => whnf))
        rotate_right 2
        · by_cases hz : noSt o.atT o.atA
          · have hb : (o.atT == 0 && o.atA == 0) = true := by simp [hz.1, hz.2]
            refine br_true hb ?_
            have hP : kindOk o → OpOk o := fun hk => ⟨hst, by omega, hv, by omega, by omega, by omega, by omega, by omega, .inl hz, hk⟩
            have hN : ¬ kindOk o → ¬ OpOk o := fun h g => h g.kind
            try (conv => whnf)
            repeat' (first
              | (refine Need.mk ?_ ?_; (focus (((conv => whnf); (repeat (refine Need.mk (by first | rfl | omega | (simp; done)) ?_; conv => whnf)); exact Done.mk trivial))); conv => whnf)
              | (refine Pick.mk ?_ ?_ ?_; rotate_left; (focus (exact bs_beq _ _)); conv => whnf)
              | (refine br_dec (fun _ => ?_) (fun _ => ?_) <;> first | contradiction | conv => whnf)
              | (refine br_not ?_; conv => whnf)
              | (refine br_bne (fun _ => ?_) (fun _ => ?_) <;> first | contradiction | conv => whnf)
              | (refine br_beq (fun _ => ?_) (fun _ => ?_) <;> first | contradiction | conv => whnf))
            all_goals
              first
                | skip
                  refine Out.mk true [] [] ?_
                  try (conv => whnf)
                  try rw [hb]
                  first
                    | exact ⟨dec_t (hP (by first | exact .inl ⟨by assumption, by assumption, hz⟩ | exact .inr (.inr (.inl ⟨by assumption, ⟨by assumption, by assumption⟩, by assumption, hz⟩)) | exact .inr (.inr (.inr ⟨by assumption, ⟨by assumption, by assumption⟩, hz⟩)))), rfl⟩
                    | exact ⟨dec_f (hN (by rintro (⟨k1, k2, k3⟩ | ⟨k1, ⟨k2, k4⟩, k3⟩ | ⟨k1, ⟨k2, k4⟩, k3, k5⟩ | ⟨k1, ⟨k2, k4⟩, k3⟩) <;> first | contradiction | omega)), rfl⟩
                | skip
                  refine Hand.mk [] ?_
                  try (conv => whnf)
                  refine CallW.d (i_charOK o.n) ?_
                  try (conv => whnf)
                  refine Out.mk true [] [] ?_
                  try (conv => whnf)
                  exact ⟨dec_b ⟨fun h => hP (.inr (.inl ⟨by assumption, ⟨by assumption, by assumption⟩, h⟩)), fun h => by
                    rcases h.kind with ⟨k1, k2, k3⟩ | ⟨k1, ⟨k2, k4⟩, k3⟩ | ⟨k1, ⟨k2, k4⟩, k3, k5⟩ | ⟨k1, ⟨k2, k4⟩, k3⟩ <;> first | exact k3 | omega⟩, rfl⟩
          · have hb : (o.atT == 0 && o.atA == 0) = false := by
              cases h : (o.atT == 0 && o.atA == 0) with
              | false => rfl
              | true => simp at h; exact absurd h hz
            refine br_false hb ?_
            by_cases hs2 : stOk o.atT o.atA
            · by_cases hsl : stLt o.atT o.atA o.time o.actor
              · try (conv => whnf)
                refine Hand.mk [] ?_
                try (conv => whnf)
                refine CallW.d (i_StampOK o.atT o.atA) ?_
                try (conv => whnf)
                try (conv => whnf)
                repeat' (first
                  | (refine br_dec (fun _ => ?_) (fun _ => ?_) <;> first | contradiction | conv => whnf)
                  | (refine br_not ?_; conv => whnf)
                  | (refine br_bne (fun _ => ?_) (fun _ => ?_) <;> first | contradiction | conv => whnf)
                  | (refine br_beq (fun _ => ?_) (fun _ => ?_) <;> first | contradiction | conv => whnf))
                refine Hand.mk [] ?_
                try (conv => whnf)
                refine CallW.d (i_stamp o) ?_
                try (conv => whnf)
                repeat (refine Need.mk ?_ ?_; (focus (((conv => whnf); (repeat (refine Need.mk (by first | rfl | omega | (simp; done)) ?_; conv => whnf)); exact Done.mk trivial))); conv => whnf)
                refine Hand.mk [] ?_
                try (conv => whnf)
                refine CallW.d (i_StampLess o.atT o.atA o.time o.actor) ?_
                try (conv => whnf)
                have hP : kindOk o → OpOk o := fun hk => ⟨hst, by omega, hv, by omega, by omega, by omega, by omega, by omega, .inr ⟨hs2, hsl⟩, hk⟩
                have hN : ¬ kindOk o → ¬ OpOk o := fun h g => h g.kind
                try (conv => whnf)
                repeat' (first
                  | (refine Pick.mk ?_ ?_ ?_; rotate_left; (focus (exact bs_beq _ _)); conv => whnf)
                  | (refine br_dec (fun _ => ?_) (fun _ => ?_) <;> first | contradiction | conv => whnf)
                  | (refine br_not ?_; conv => whnf)
                  | (refine br_bne (fun _ => ?_) (fun _ => ?_) <;> first | contradiction | conv => whnf)
                  | (refine br_beq (fun _ => ?_) (fun _ => ?_) <;> first | contradiction | conv => whnf))
                all_goals
                  first
                    | skip
                      refine Out.mk true [] [] ?_
                      try (conv => whnf)
                      try rw [hb]
                      first
                        | exact ⟨dec_t (hP (by first | exact .inl ⟨by assumption, by assumption, hz⟩ | exact .inr (.inr (.inl ⟨by assumption, ⟨by assumption, by assumption⟩, by assumption, hz⟩)) | exact .inr (.inr (.inr ⟨by assumption, ⟨by assumption, by assumption⟩, hz⟩)))), rfl⟩
                        | exact ⟨dec_f (hN (by rintro (⟨k1, k2, k3⟩ | ⟨k1, ⟨k2, k4⟩, k3⟩ | ⟨k1, ⟨k2, k4⟩, k3, k5⟩ | ⟨k1, ⟨k2, k4⟩, k3⟩) <;> first | contradiction | omega)), rfl⟩
                    | skip
                      refine Hand.mk [] ?_
                      try (conv => whnf)
                      refine CallW.d (i_charOK o.n) ?_
                      try (conv => whnf)
                      refine Out.mk true [] [] ?_
                      try (conv => whnf)
                      exact ⟨dec_b ⟨fun h => hP (.inr (.inl ⟨by assumption, ⟨by assumption, by assumption⟩, h⟩)), fun h => by
                        rcases h.kind with ⟨k1, k2, k3⟩ | ⟨k1, ⟨k2, k4⟩, k3⟩ | ⟨k1, ⟨k2, k4⟩, k3, k5⟩ | ⟨k1, ⟨k2, k4⟩, k3⟩ <;> first | exact k3 | omega⟩, rfl⟩
              · try (conv => whnf)
                refine Hand.mk [] ?_
                try (conv => whnf)
                refine CallW.d (i_StampOK o.atT o.atA) ?_
                try (conv => whnf)
                try (conv => whnf)
                repeat' (first
                  | (refine br_dec (fun _ => ?_) (fun _ => ?_) <;> first | contradiction | conv => whnf)
                  | (refine br_not ?_; conv => whnf)
                  | (refine br_bne (fun _ => ?_) (fun _ => ?_) <;> first | contradiction | conv => whnf)
                  | (refine br_beq (fun _ => ?_) (fun _ => ?_) <;> first | contradiction | conv => whnf))
                refine Hand.mk [] ?_
                try (conv => whnf)
                refine CallW.d (i_stamp o) ?_
                try (conv => whnf)
                repeat (refine Need.mk ?_ ?_; (focus (((conv => whnf); (repeat (refine Need.mk (by first | rfl | omega | (simp; done)) ?_; conv => whnf)); exact Done.mk trivial))); conv => whnf)
                refine Hand.mk [] ?_
                try (conv => whnf)
                refine CallW.d (i_StampLess o.atT o.atA o.time o.actor) ?_
                try (conv => whnf)
                try (conv => whnf)
                repeat' (first
                  | (refine br_dec (fun _ => ?_) (fun _ => ?_) <;> first | contradiction | conv => whnf)
                  | (refine br_not ?_; conv => whnf)
                  | (refine br_bne (fun _ => ?_) (fun _ => ?_) <;> first | contradiction | conv => whnf)
                  | (refine br_beq (fun _ => ?_) (fun _ => ?_) <;> first | contradiction | conv => whnf))
                refine Out.mk true [] [] ?_
                try (conv => whnf)
                exact ⟨dec_f (fun h => by
                  obtain ⟨h1, h2, h3, h4, h5, h6, h7, h8, h9, h10⟩ := h
                  first | contradiction | omega | (rcases h9 with h9 | ⟨h9, h9'⟩ <;> contradiction)), rfl⟩
            · try (conv => whnf)
              refine Hand.mk [] ?_
              try (conv => whnf)
              refine CallW.d (i_StampOK o.atT o.atA) ?_
              try (conv => whnf)
              try (conv => whnf)
              repeat' (first
                | (refine Need.mk ?_ ?_; (focus (((conv => whnf); (repeat (refine Need.mk (by first | rfl | omega | (simp; done)) ?_; conv => whnf)); exact Done.mk trivial))); conv => whnf)
                | (refine br_dec (fun _ => ?_) (fun _ => ?_) <;> first | contradiction | conv => whnf)
                | (refine br_not ?_; conv => whnf)
                | (refine br_bne (fun _ => ?_) (fun _ => ?_) <;> first | contradiction | conv => whnf)
                | (refine br_beq (fun _ => ?_) (fun _ => ?_) <;> first | contradiction | conv => whnf))
              refine Out.mk true [] [] ?_
              try (conv => whnf)
              exact ⟨dec_f (fun h => by
                obtain ⟨h1, h2, h3, h4, h5, h6, h7, h8, h9, h10⟩ := h
                first | contradiction | omega | (rcases h9 with h9 | ⟨h9, h9'⟩ <;> contradiction)), rfl⟩
        all_goals
          refine Out.mk true [] [] ?_
          try (conv => whnf)
        all_goals
          exact ⟨dec_f (fun h => by
            obtain ⟨h1, h2, h3, h4, h5, h6, h7, h8, h9, h10⟩ := h
            first | contradiction | omega | (rcases h9 with h9 | ⟨h9, h9'⟩ <;> contradiction)), rfl⟩
      all_goals
        refine Out.mk true [] [] ?_
        try (conv => whnf)
      all_goals
        exact ⟨dec_f (fun h => by
          obtain ⟨h1, h2, h3, h4, h5, h6, h7, h8, h9, h10⟩ := h
          first | contradiction | omega | (rcases h9 with h9 | ⟨h9, h9'⟩ <;> contradiction)), rfl⟩
    · try (conv => whnf)
      repeat' (first
        | (refine br_dec (fun _ => ?_) (fun _ => ?_) <;> first | (exfalso; omega) | contradiction | conv => whnf)
        | (refine br_not ?_; conv => whnf)
        | (refine br_bne (fun _ => ?_) (fun _ => ?_) <;> first | (exfalso; omega) | contradiction | conv => whnf)
        | (refine br_beq (fun _ => ?_) (fun _ => ?_) <;> first | (exfalso; omega) | contradiction | conv => whnf))
      rotate_left 2
      · refine Hand.mk [] ?_
        try (conv => whnf)
        refine CallW.d (i_VecOK o.deps) ?_
        try (conv => whnf)
        try (conv => whnf)
        repeat' (first
          | (refine br_dec (fun _ => ?_) (fun _ => ?_) <;> first | (exfalso; omega) | contradiction | conv => whnf)
          | (refine br_not ?_; conv => whnf)
          | (refine br_bne (fun _ => ?_) (fun _ => ?_) <;> first | (exfalso; omega) | contradiction | conv => whnf)
          | (refine br_beq (fun _ => ?_) (fun _ => ?_) <;> first | (exfalso; omega) | contradiction | conv => whnf))
        refine Out.mk true [] [] ?_
        try (conv => whnf)
        exact ⟨dec_f (fun h => by
          obtain ⟨h1, h2, h3, h4, h5, h6, h7, h8, h9, h10⟩ := h
          first | contradiction | omega | (rcases h9 with h9 | ⟨h9, h9'⟩ <;> contradiction)), rfl⟩
      all_goals
        refine Out.mk true [] [] ?_
        try (conv => whnf)
      all_goals
        exact ⟨dec_f (fun h => by
          obtain ⟨h1, h2, h3, h4, h5, h6, h7, h8, h9, h10⟩ := h
          first | contradiction | omega | (rcases h9 with h9 | ⟨h9, h9'⟩ <;> contradiction)), rfl⟩
  · try (conv => whnf)
    repeat' (first
      | (refine br_dec (fun _ => ?_) (fun _ => ?_) <;> first | (exfalso; omega) | contradiction | conv => whnf)
      | (refine br_not ?_; conv => whnf)
      | (refine br_bne (fun _ => ?_) (fun _ => ?_) <;> first | (exfalso; omega) | contradiction | conv => whnf)
      | (refine br_beq (fun _ => ?_) (fun _ => ?_) <;> first | (exfalso; omega) | contradiction | conv => whnf))
    refine Out.mk true [] [] ?_
    try (conv => whnf)
    exact ⟨dec_f (fun h => by
      obtain ⟨h1, h2, h3, h4, h5, h6, h7, h8, h9, h10⟩ := h
      first | contradiction | omega | (rcases h9 with h9 | ⟨h9, h9'⟩ <;> contradiction)), rfl⟩
theorem s_l08OpOK (o : OpV) (hk : o.key.length ≤ 2 ^ 40) (ht : o.text.length ≤ 2 ^ 40) : CallD Try.prog id_spec_l08OpOK [vO o] [] (vB (decide (OpOk o))) [] := by
  refine F_spec_l08OpOK ?_
  try (conv => whnf)
  refine Hand.mk [] ?_
  try (conv => whnf)
  refine CallW.d (s_l08Stamp o) ?_
  try (conv => whnf)
  refine Hand.mk [] ?_
  try (conv => whnf)
  refine CallW.d (s_StampOK o.time o.actor) ?_
  try (conv => whnf)
  by_cases hst : stOk o.time o.actor
  · obtain ⟨⟨t1, t2⟩, a1, a2⟩ := id hst
    by_cases hv : VecOk o.deps
    · have hvl := hv.1
      obtain ⟨hlt, hown⟩ := own_at hv ⟨a1, a2⟩
      try (conv => whnf)
      repeat' (first
        | (refine br_dec (fun _ => ?_) (fun _ => ?_) <;> first | (exfalso; omega) | contradiction | conv => whnf)
        | (refine br_not ?_; conv => whnf)
        | (refine br_bne (fun _ => ?_) (fun _ => ?_) <;> first | (exfalso; omega) | contradiction | conv => whnf)
        | (refine br_beq (fun _ => ?_) (fun _ => ?_) <;> first | (exfalso; omega) | contradiction | conv => whnf))
      rotate_left 2
      · refine Hand.mk [] ?_
        try (conv => whnf)
        refine CallW.d (s_VecOK o.deps) ?_
        try (conv => whnf)
        try (conv => whnf)
        repeat' (first
          | (refine Pick.mk ?_ ?_ ?_; rotate_left; (focus (first | exact size_bs _ | (refine wid ?_ ?_ <;> omega) | (refine pick_int _ _ _ ?_ ?_ <;> omega))); conv => whnf)
          | (refine br_dec (fun _ => ?_) (fun _ => ?_) <;> first | (exfalso; omega) | contradiction | conv => whnf)
          | (refine br_not ?_; conv => whnf)
          | (refine br_bne (fun _ => ?_) (fun _ => ?_) <;> first | (exfalso; omega) | contradiction | conv => whnf)
          | (refine br_beq (fun _ => ?_) (fun _ => ?_) <;> first | (exfalso; omega) | contradiction | conv => whnf))
        all_goals
          first
            | skip
              refine Out.mk true [] [] ?_
              try (conv => whnf)
              exact ⟨dec_f (fun h => by
                obtain ⟨h1, h2, h3, h4, h5, h6, h7, h8, h9, h10⟩ := h
                first | contradiction | omega | (rcases h9 with h9 | ⟨h9, h9'⟩ <;> contradiction)), rfl⟩
            | skip
        by_cases hz : noSt o.atT o.atA
        · refine Hand.mk [] ?_
          try (conv => whnf)
          refine CallW.d (s_l02None o.atT o.atA) ?_
          try (conv => whnf)
          have hP : kindOk o → OpOk o := fun hk => ⟨hst, by omega, hv, by omega, by omega, by omega, by omega, by omega, .inl hz, hk⟩
          have hN : ¬ kindOk o → ¬ OpOk o := fun h g => h g.kind
          try (conv => whnf)
          repeat' (first
            | (refine Pick.mk ?_ ?_ ?_; rotate_left; (focus (exact bs_beq _ _)); conv => whnf)
            | (refine br_dec (fun _ => ?_) (fun _ => ?_) <;> first | contradiction | conv => whnf)
            | (refine br_not ?_; conv => whnf)
            | (refine br_bne (fun _ => ?_) (fun _ => ?_) <;> first | contradiction | conv => whnf)
            | (refine br_beq (fun _ => ?_) (fun _ => ?_) <;> first | contradiction | conv => whnf))
          all_goals
            first
              | skip
                refine Out.mk true [] [] ?_
                try (conv => whnf)
                first
                  | exact ⟨dec_t (hP (by first | exact .inl ⟨by assumption, by assumption, hz⟩ | exact .inr (.inr (.inl ⟨by assumption, ⟨by assumption, by assumption⟩, by assumption, hz⟩)) | exact .inr (.inr (.inr ⟨by assumption, ⟨by assumption, by assumption⟩, hz⟩)))), rfl⟩
                  | exact ⟨dec_f (hN (by rintro (⟨k1, k2, k3⟩ | ⟨k1, ⟨k2, k4⟩, k3⟩ | ⟨k1, ⟨k2, k4⟩, k3, k5⟩ | ⟨k1, ⟨k2, k4⟩, k3⟩) <;> first | contradiction | omega)), rfl⟩
              | skip
                refine Hand.mk [] ?_
                try (conv => whnf)
                refine CallW.d (s_l04Char o.n) ?_
                try (conv => whnf)
                refine Out.mk true [] [] ?_
                try (conv => whnf)
                exact ⟨dec_b ⟨fun h => hP (.inr (.inl ⟨by assumption, ⟨by assumption, by assumption⟩, h⟩)), fun h => by
                  rcases h.kind with ⟨k1, k2, k3⟩ | ⟨k1, ⟨k2, k4⟩, k3⟩ | ⟨k1, ⟨k2, k4⟩, k3, k5⟩ | ⟨k1, ⟨k2, k4⟩, k3⟩ <;> first | exact k3 | omega⟩, rfl⟩
              | skip
                refine Hand.mk [] ?_
                try (conv => whnf)
                refine CallW.d (s_l02None o.atT o.atA) ?_
                try (conv => whnf)
                refine Out.mk true [] [] ?_
                try (conv => whnf)
                first
                  | rw [show (!decide (noSt o.atT o.atA)) = false from by rw [decide_eq_true hz]; rfl]
                  | rw [show (!decide (noSt o.atT o.atA)) = true from by rw [decide_eq_false hz]; rfl]
                  | rw [show decide (noSt o.atT o.atA) = true from decide_eq_true hz]
                  | rw [show decide (noSt o.atT o.atA) = false from decide_eq_false hz]
                first
                  | exact ⟨dec_t (hP (by first | exact .inl ⟨by assumption, by assumption, hz⟩ | exact .inr (.inr (.inl ⟨by assumption, ⟨by assumption, by assumption⟩, by assumption, hz⟩)) | exact .inr (.inr (.inr ⟨by assumption, ⟨by assumption, by assumption⟩, hz⟩)))), rfl⟩
                  | exact ⟨dec_f (hN (by rintro (⟨k1, k2, k3⟩ | ⟨k1, ⟨k2, k4⟩, k3⟩ | ⟨k1, ⟨k2, k4⟩, k3, k5⟩ | ⟨k1, ⟨k2, k4⟩, k3⟩) <;> first | contradiction | omega)), rfl⟩
        · by_cases hs2 : stOk o.atT o.atA
          · by_cases hsl : stLt o.atT o.atA o.time o.actor
            · refine Hand.mk [] ?_
              try (conv => whnf)
              refine CallW.d (s_l02None o.atT o.atA) ?_
              try (conv => whnf)
              try (conv => whnf)
              repeat' (first
                | (refine br_dec (fun _ => ?_) (fun _ => ?_) <;> first | contradiction | conv => whnf)
                | (refine br_not ?_; conv => whnf)
                | (refine br_bne (fun _ => ?_) (fun _ => ?_) <;> first | contradiction | conv => whnf)
                | (refine br_beq (fun _ => ?_) (fun _ => ?_) <;> first | contradiction | conv => whnf))
              refine Hand.mk [] ?_
              try (conv => whnf)
              refine CallW.d (s_StampOK o.atT o.atA) ?_
              try (conv => whnf)
              try (conv => whnf)
              repeat' (first
                | (refine br_dec (fun _ => ?_) (fun _ => ?_) <;> first | contradiction | conv => whnf)
                | (refine br_not ?_; conv => whnf)
                | (refine br_bne (fun _ => ?_) (fun _ => ?_) <;> first | contradiction | conv => whnf)
                | (refine br_beq (fun _ => ?_) (fun _ => ?_) <;> first | contradiction | conv => whnf))
              refine Hand.mk [] ?_
              try (conv => whnf)
              refine CallW.d (s_StampLess o.atT o.atA o.time o.actor) ?_
              try (conv => whnf)
              have hP : kindOk o → OpOk o := fun hk => ⟨hst, by omega, hv, by omega, by omega, by omega, by omega, by omega, .inr ⟨hs2, hsl⟩, hk⟩
              have hN : ¬ kindOk o → ¬ OpOk o := fun h g => h g.kind
              try (conv => whnf)
              repeat' (first
                | (refine Pick.mk ?_ ?_ ?_; rotate_left; (focus (exact bs_beq _ _)); conv => whnf)
                | (refine br_dec (fun _ => ?_) (fun _ => ?_) <;> first | contradiction | conv => whnf)
                | (refine br_not ?_; conv => whnf)
                | (refine br_bne (fun _ => ?_) (fun _ => ?_) <;> first | contradiction | conv => whnf)
                | (refine br_beq (fun _ => ?_) (fun _ => ?_) <;> first | contradiction | conv => whnf))
              all_goals
                first
                  | skip
                    refine Out.mk true [] [] ?_
                    try (conv => whnf)
                    first
                      | exact ⟨dec_t (hP (by first | exact .inl ⟨by assumption, by assumption, hz⟩ | exact .inr (.inr (.inl ⟨by assumption, ⟨by assumption, by assumption⟩, by assumption, hz⟩)) | exact .inr (.inr (.inr ⟨by assumption, ⟨by assumption, by assumption⟩, hz⟩)))), rfl⟩
                      | exact ⟨dec_f (hN (by rintro (⟨k1, k2, k3⟩ | ⟨k1, ⟨k2, k4⟩, k3⟩ | ⟨k1, ⟨k2, k4⟩, k3, k5⟩ | ⟨k1, ⟨k2, k4⟩, k3⟩) <;> first | contradiction | omega)), rfl⟩
                  | skip
                    refine Hand.mk [] ?_
                    try (conv => whnf)
                    refine CallW.d (s_l04Char o.n) ?_
                    try (conv => whnf)
                    refine Out.mk true [] [] ?_
                    try (conv => whnf)
                    exact ⟨dec_b ⟨fun h => hP (.inr (.inl ⟨by assumption, ⟨by assumption, by assumption⟩, h⟩)), fun h => by
                      rcases h.kind with ⟨k1, k2, k3⟩ | ⟨k1, ⟨k2, k4⟩, k3⟩ | ⟨k1, ⟨k2, k4⟩, k3, k5⟩ | ⟨k1, ⟨k2, k4⟩, k3⟩ <;> first | exact k3 | omega⟩, rfl⟩
                  | skip
                    refine Hand.mk [] ?_
                    try (conv => whnf)
                    refine CallW.d (s_l02None o.atT o.atA) ?_
                    try (conv => whnf)
                    refine Out.mk true [] [] ?_
                    try (conv => whnf)
                    first
                      | rw [show (!decide (noSt o.atT o.atA)) = false from by rw [decide_eq_true hz]; rfl]
                      | rw [show (!decide (noSt o.atT o.atA)) = true from by rw [decide_eq_false hz]; rfl]
                      | rw [show decide (noSt o.atT o.atA) = true from decide_eq_true hz]
                      | rw [show decide (noSt o.atT o.atA) = false from decide_eq_false hz]
                    first
                      | exact ⟨dec_t (hP (by first | exact .inl ⟨by assumption, by assumption, hz⟩ | exact .inr (.inr (.inl ⟨by assumption, ⟨by assumption, by assumption⟩, by assumption, hz⟩)) | exact .inr (.inr (.inr ⟨by assumption, ⟨by assumption, by assumption⟩, hz⟩)))), rfl⟩
                      | exact ⟨dec_f (hN (by rintro (⟨k1, k2, k3⟩ | ⟨k1, ⟨k2, k4⟩, k3⟩ | ⟨k1, ⟨k2, k4⟩, k3, k5⟩ | ⟨k1, ⟨k2, k4⟩, k3⟩) <;> first | contradiction | omega)), rfl⟩
            · refine Hand.mk [] ?_
              try (conv => whnf)
              refine CallW.d (s_l02None o.atT o.atA) ?_
              try (conv => whnf)
              try (conv => whnf)
              repeat' (first
                | (refine br_dec (fun _ => ?_) (fun _ => ?_) <;> first | contradiction | conv => whnf)
                | (refine br_not ?_; conv => whnf)
                | (refine br_bne (fun _ => ?_) (fun _ => ?_) <;> first | contradiction | conv => whnf)
                | (refine br_beq (fun _ => ?_) (fun _ => ?_) <;> first | contradiction | conv => whnf))
              refine Hand.mk [] ?_
              try (conv => whnf)
              refine CallW.d (s_StampOK o.atT o.atA) ?_
              try (conv => whnf)
              try (conv => whnf)
              repeat' (first
                | (refine br_dec (fun _ => ?_) (fun _ => ?_) <;> first | contradiction | conv => whnf)
                | (refine br_not ?_; conv => whnf)
                | (refine br_bne (fun _ => ?_) (fun _ => ?_) <;> first | contradiction | conv => whnf)
                | (refine br_beq (fun _ => ?_) (fun _ => ?_) <;> first | contradiction | conv => whnf))
              refine Hand.mk [] ?_
              try (conv => whnf)
              refine CallW.d (s_StampLess o.atT o.atA o.time o.actor) ?_
              try (conv => whnf)
              try (conv => whnf)
              repeat' (first
                | (refine br_dec (fun _ => ?_) (fun _ => ?_) <;> first | contradiction | conv => whnf)
                | (refine br_not ?_; conv => whnf)
                | (refine br_bne (fun _ => ?_) (fun _ => ?_) <;> first | contradiction | conv => whnf)
                | (refine br_beq (fun _ => ?_) (fun _ => ?_) <;> first | contradiction | conv => whnf))
              refine Out.mk true [] [] ?_
              try (conv => whnf)
              exact ⟨dec_f (fun h => by
                obtain ⟨h1, h2, h3, h4, h5, h6, h7, h8, h9, h10⟩ := h
                first | contradiction | omega | (rcases h9 with h9 | ⟨h9, h9'⟩ <;> contradiction)), rfl⟩
          · refine Hand.mk [] ?_
            try (conv => whnf)
            refine CallW.d (s_l02None o.atT o.atA) ?_
            try (conv => whnf)
            try (conv => whnf)
            repeat' (first
              | (refine br_dec (fun _ => ?_) (fun _ => ?_) <;> first | contradiction | conv => whnf)
              | (refine br_not ?_; conv => whnf)
              | (refine br_bne (fun _ => ?_) (fun _ => ?_) <;> first | contradiction | conv => whnf)
              | (refine br_beq (fun _ => ?_) (fun _ => ?_) <;> first | contradiction | conv => whnf))
            refine Hand.mk [] ?_
            try (conv => whnf)
            refine CallW.d (s_StampOK o.atT o.atA) ?_
            try (conv => whnf)
            try (conv => whnf)
            repeat' (first
              | (refine br_dec (fun _ => ?_) (fun _ => ?_) <;> first | contradiction | conv => whnf)
              | (refine br_not ?_; conv => whnf)
              | (refine br_bne (fun _ => ?_) (fun _ => ?_) <;> first | contradiction | conv => whnf)
              | (refine br_beq (fun _ => ?_) (fun _ => ?_) <;> first | contradiction | conv => whnf))
            refine Out.mk true [] [] ?_
            try (conv => whnf)
            exact ⟨dec_f (fun h => by
              obtain ⟨h1, h2, h3, h4, h5, h6, h7, h8, h9, h10⟩ := h
              first | contradiction | omega | (rcases h9 with h9 | ⟨h9, h9'⟩ <;> contradiction)), rfl⟩
      all_goals
        refine Out.mk true [] [] ?_
        try (conv => whnf)
      all_goals
        exact ⟨dec_f (fun h => by
          obtain ⟨h1, h2, h3, h4, h5, h6, h7, h8, h9, h10⟩ := h
          first | contradiction | omega | (rcases h9 with h9 | ⟨h9, h9'⟩ <;> contradiction)), rfl⟩
    · try (conv => whnf)
      repeat' (first
        | (refine br_dec (fun _ => ?_) (fun _ => ?_) <;> first | (exfalso; omega) | contradiction | conv => whnf)
        | (refine br_not ?_; conv => whnf)
        | (refine br_bne (fun _ => ?_) (fun _ => ?_) <;> first | (exfalso; omega) | contradiction | conv => whnf)
        | (refine br_beq (fun _ => ?_) (fun _ => ?_) <;> first | (exfalso; omega) | contradiction | conv => whnf))
      rotate_left 2
      · refine Hand.mk [] ?_
        try (conv => whnf)
        refine CallW.d (s_VecOK o.deps) ?_
        try (conv => whnf)
        try (conv => whnf)
        repeat' (first
          | (refine br_dec (fun _ => ?_) (fun _ => ?_) <;> first | (exfalso; omega) | contradiction | conv => whnf)
          | (refine br_not ?_; conv => whnf)
          | (refine br_bne (fun _ => ?_) (fun _ => ?_) <;> first | (exfalso; omega) | contradiction | conv => whnf)
          | (refine br_beq (fun _ => ?_) (fun _ => ?_) <;> first | (exfalso; omega) | contradiction | conv => whnf))
        refine Out.mk true [] [] ?_
        try (conv => whnf)
        exact ⟨dec_f (fun h => by
          obtain ⟨h1, h2, h3, h4, h5, h6, h7, h8, h9, h10⟩ := h
          first | contradiction | omega | (rcases h9 with h9 | ⟨h9, h9'⟩ <;> contradiction)), rfl⟩
      all_goals
        refine Out.mk true [] [] ?_
        try (conv => whnf)
      all_goals
        exact ⟨dec_f (fun h => by
          obtain ⟨h1, h2, h3, h4, h5, h6, h7, h8, h9, h10⟩ := h
          first | contradiction | omega | (rcases h9 with h9 | ⟨h9, h9'⟩ <;> contradiction)), rfl⟩
  · try (conv => whnf)
    repeat' (first
      | (refine br_dec (fun _ => ?_) (fun _ => ?_) <;> first | (exfalso; omega) | contradiction | conv => whnf)
      | (refine br_not ?_; conv => whnf)
      | (refine br_bne (fun _ => ?_) (fun _ => ?_) <;> first | (exfalso; omega) | contradiction | conv => whnf)
      | (refine br_beq (fun _ => ?_) (fun _ => ?_) <;> first | (exfalso; omega) | contradiction | conv => whnf))
    refine Out.mk true [] [] ?_
    try (conv => whnf)
    exact ⟨dec_f (fun h => by
      obtain ⟨h1, h2, h3, h4, h5, h6, h7, h8, h9, h10⟩ := h
      first | contradiction | omega | (rcases h9 with h9 | ⟨h9, h9'⟩ <;> contradiction)), rfl⟩
end Go.Proofs.Ytoklfidamhigcaa.D
