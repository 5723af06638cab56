/- append, as the model runs it. -/
import Derived.Test.YtoklfidamhigcaaDK
namespace Go.Proofs.Ytoklfidamhigcaa.D
open Go.RowKit

section
variable {P : Program} (tb : Tab P) {w0 : World} {M : Rows0} {N : Nat} {V V0 : View} {bs : Loc} {S : St} {a : Act} {w : World}

theorem zeroCells_size (z : Array Value) (n : Nat) : (Builtin.zeroCells z n).size = n * z.size := by simp [Builtin.zeroCells]

theorem TyFacts.notInt {t : TypeId} {i : TyI} (h : TyFacts P t i) (hk : (∃ e, i.kind = .slice e) ∨ i.kind = .string) : ∃ d, (∀ w, (underlying t).run P w = .ok d w) ∧ (d matches .int _) = false := by
  rcases hk with ⟨e, hk⟩ | hk
  · exact ⟨_, fun w => Go.run_underlying (h.slice hk) w, rfl⟩
  · exact ⟨_, fun w => Go.run_underlying (h.string hk) w, rfl⟩

theorem run_append_grow {t t' ty e : TypeId} {i i' : TyI} (ht : P.underlying t = some (.slice e)) (hi : TyFacts P e i) (hz : i.zero ≠ []) (hi' : TyFacts P t' i') (hk : (∃ e, i'.kind = .slice e) ∨ i'.kind = .string)
    {base : Option Addr} {len cap n : Nat} {x : Value} {old new : Array Value} (hneed : cap < len + n) (hb : (2 * (len + n) + 1024) * i.bytes ≤ 2 ^ 48) (h40 : len + n ≤ 2 ^ 48)
    (hl : (Builtin.lenOf x).run P w = .ok n w) (ho : (Builtin.firstCells i.size len (.slice base len cap)).run P w.drew = .ok old w.drew)
    (hn : (Builtin.firstCells i.size n x).run P w.drew = .ok new w.drew) :
    ∃ (c : Nat) (rest : List Value), len + n ≤ c ∧ rest.length = (c - (len + n)) * i.size ∧
      (Builtin.append_ #[t, t'] ty #[.slice base len cap, x]).run P w = .ok (.slice (some ⟨w.heap.size, 0, none⟩) (len + n) c) (w.drew.alloc (.cells (old ++ new ++ rest.toArray) e)) := by
  obtain ⟨info, hinf, hs1, hs2, _⟩ := hi.info
  obtain ⟨z, hzr, hzc, _⟩ := hi.run_zero hz w.drew
  have hzl := hi.zlen hz
  have hsz : z.cells.size = i.size := by rw [← hzl]; have := congrArg List.length hzc; simpa using this
  have hnc := nextcap_le hneed
  have hpick : ¬ (Builtin.nextslicecap (len + n) cap * i.bytes > 2 ^ 48) := by
    have : Builtin.nextslicecap (len + n) cap * i.bytes ≤ (2 * (len + n) + 1024) * i.bytes := Nat.mul_le_mul_right _ hnc
    omega
  have hn1 : ¬ (len + n ≤ cap) := by omega
  have h63 : ¬ (((len : Int) + (n : Int)) > IntKind.i64.max) := by
    have : IntKind.i64.max = 9223372036854775807 := by decide
    omega
  refine ⟨(Question.appendCap (len + n) cap e).cut (w.tape w.drawn (.appendCap (len + n) cap e)), (Builtin.zeroCells z.cells ((Question.appendCap (len + n) cap e).cut (w.tape w.drawn (.appendCap (len + n) cap e)) - (len + n))).toList, ?_, ?_, ?_⟩
  · simp only [Question.cut]; omega
  · rw [Array.length_toList, zeroCells_size, hsz]
  · have hq : (Question.appendCap (len + n) cap e).forced = false := rfl
    have hu1 := fun w => Go.run_underlying ht w
    have hz1 := fun w => hi.run_sizeOf w
    have h63' : ¬ (9223372036854775807 < ((len : Int) + (n : Int))) := by omega
    have hpick' : ¬ (281474976710656 < Builtin.nextslicecap (len + n) cap * i.bytes) := by omega
    have hdrew : ({ w with drawn := w.drawn + 1 } : World) = w.drew := rfl
    rcases hk with ⟨e', hk⟩ | hk
    · have hu2 := fun w => Go.run_underlying (hi'.slice hk) w
      simp [Builtin.append_, hu1, hu2, hz1, hl, hn1, h63', hpick', hinf, hs2, typeInfo, hq, ho, hn, hzr, newRow]
    · have hu2 := fun w => Go.run_underlying (hi'.string hk) w
      simp [Builtin.append_, hu1, hu2, hz1, hl, hn1, h63', hpick', hinf, hs2, typeInfo, hq, ho, hn, hzr, newRow]

theorem run_append_fits {t t' ty e : TypeId} {i i' : TyI} (ht : P.underlying t = some (.slice e)) (hi : TyFacts P e i) (hi' : TyFacts P t' i') (hk : (∃ e, i'.kind = .slice e) ∨ i'.kind = .string)
    {b : Nat} {o len cap n : Nat} {x : Value} {new : Array Value} (hneed : len + n ≤ cap) (hl : (Builtin.lenOf x).run P w = .ok n w)
    (hn : (Builtin.firstCells i.size n x).run P w = .ok new w) {w' : World} (hst : (storeCells ⟨b, o, none⟩ new.toList (len * i.size)).run P w = .ok () w') :
    (Builtin.append_ #[t, t'] ty #[.slice (some ⟨b, o, none⟩) len cap, x]).run P w = .ok (.slice (some ⟨b, o, none⟩) (len + n) cap) w' := by
  have hu1 := fun w => Go.run_underlying ht w
  have hz1 := fun w => hi.run_sizeOf w
  have hshift : ∀ (us : List Value) (m k o : Nat) (w : World), (storeCells ⟨b, o + m, none⟩ us k).run P w = (storeCells ⟨b, o, none⟩ us (m + k)).run P w := by
    intro us
    induction us with
    | nil => intro m k o w; simp [storeCells]
    | cons u us ih => intro m k o w; simp only [storeCells, Sem.run_bind, add_eq, Nat.add_assoc, ih]
  have h0 := hshift new.toList (len * i.size) 0 o w
  rw [Nat.add_zero, hst] at h0
  rcases hk with ⟨e', hk⟩ | hk
  · have hu2 := fun w => Go.run_underlying (hi'.slice hk) w
    simp [Builtin.append_, hu1, hu2, hz1, hl, hneed, hn, add_eq, h0]
  · have hu2 := fun w => Go.run_underlying (hi'.string hk) w
    simp [Builtin.append_, hu1, hu2, hz1, hl, hneed, hn, add_eq, h0]

theorem run_append_nothing {t t' ty e : TypeId} {i i' : TyI} (ht : P.underlying t = some (.slice e)) (hi : TyFacts P e i) (hi' : TyFacts P t' i') (hk : (∃ e, i'.kind = .slice e) ∨ i'.kind = .string)
    {ad : Option Addr} {cap : Nat} {x : Value} (hl : (Builtin.lenOf x).run P w = .ok 0 w) (hn : (Builtin.firstCells i.size 0 x).run P w = .ok #[] w) :
    (Builtin.append_ #[t, t'] ty #[.slice ad 0 cap, x]).run P w = .ok (.slice ad 0 cap) w := by
  have hu1 := fun w => Go.run_underlying ht w
  have hz1 := fun w => hi.run_sizeOf w
  rcases hk with ⟨e', hk⟩ | hk
  · have hu2 := fun w => Go.run_underlying (hi'.slice hk) w
    cases ad <;> simp [Builtin.append_, hu1, hu2, hz1, hl, hn, storeCells]
  · have hu2 := fun w => Go.run_underlying (hi'.string hk) w
    cases ad <;> simp [Builtin.append_, hu1, hu2, hz1, hl, hn, storeCells]
end
end Go.Proofs.Ytoklfidamhigcaa.D
