import Derived.Test.YtlpdklfijainaaaWWords
import Derived.Test.YtlpdklfijainaaaWMore
/-! Total runs of printed functions: 'Tot g P': with enough rounds g answers, and P holds of what it answers. -/
namespace Go.Proofs.Ytlpdklfijainaaa.Q
open Go.RowKit Go.Proofs.YtlpdklfijainaaaW.PrintWords Go.Proofs.YtlpdklfijainaaaW.PrintLast Go.Proofs.YtlpdklfijainaaaW.PrintMore
set_option linter.unusedVariables false
set_option linter.unusedSimpArgs false

def Tot {α : Type} (g : Nat → Option α) (P : α → Prop) : Prop := ∃ r, Ev g r ∧ P r

theorem Tot.ret {α : Type} {P : α → Prop} (r : α) (h : P r) : Tot (fun _ => some r) P := ⟨r, Ev.now r, h⟩
theorem Tot.bind {α β : Type} {P : α → Prop} {Q : β → Prop} {g : Nat → Option α} {f : Nat → α → Option β} (h : Tot g P) (k : ∀ r, P r → Tot (fun n => f n r) Q) : Tot (fun n => (g n).bind (f n)) Q := by
  obtain ⟨r, h1, h2⟩ := h
  obtain ⟨q, h3, h4⟩ := k r h2
  exact ⟨q, Ev.bind h1 h3, h4⟩
theorem Tot.let_ {α β : Type} {Q : β → Prop} {f : Nat → α → Option β} (a : α) (k : Tot (fun n => f n a) Q) : Tot (fun n => (some a).bind (f n)) Q := k
theorem Tot.ite {α : Type} {P : α → Prop} {c : Prop} [Decidable c] {g f : Nat → Option α} (h : c → Tot g P) (k : ¬ c → Tot f P) : Tot (fun n => if c then g n else f n) P := by
  by_cases hc : c
  · simpa [hc] using h hc
  · simpa [hc] using k hc
theorem Tot.pos {α : Type} {P : α → Prop} {c : Prop} [Decidable c] {g f : Nat → Option α} (hc : c) (h : Tot g P) : Tot (fun n => if c then g n else f n) P := by
  simpa [hc] using h
theorem Tot.neg {α : Type} {P : α → Prop} {c : Prop} [Decidable c] {g f : Nat → Option α} (hc : ¬ c) (h : Tot f P) : Tot (fun n => if c then g n else f n) P := by
  simpa [hc] using h
theorem Tot.mono {α : Type} {P Q : α → Prop} {g : Nat → Option α} (h : Tot g P) (k : ∀ r, P r → Q r) : Tot g Q := by
  obtain ⟨r, h1, h2⟩ := h
  exact ⟨r, h1, k r h2⟩
theorem Tot.step {α : Type} {P : α → Prop} {g f : Nat → Option α} (h : ∀ k, g (k + 1) = f k) (k : Tot f P) : Tot g P := by
  obtain ⟨r, h1, h2⟩ := k
  exact ⟨r, Ev.step h h1, h2⟩
theorem Tot.congr {α : Type} {P : α → Prop} {g f : Nat → Option α} (h : ∀ k, g k = f k) (k : Tot f P) : Tot g P := by
  obtain ⟨r, h1, h2⟩ := k
  exact ⟨r, Ev.congr h h1, h2⟩
theorem Tot.of {α : Type} {P : α → Prop} {x : Option α} (h : ∃ r, x = some r ∧ P r) : Tot (fun _ => x) P := by
  obtain ⟨r, rfl, h2⟩ := h
  exact ⟨r, Ev.now r, h2⟩
theorem Tot.eq {α : Type} {x : Option α} {P : α → Prop} (h : Tot (fun _ => x) P) : ∃ r, x = some r ∧ P r := by
  obtain ⟨r, h1, h2⟩ := h
  obtain ⟨k, hk⟩ := h1.rounds
  exact ⟨r, hk, h2⟩
theorem Tot.rounds {α : Type} {g : Nat → Option α} {r : α} (h : Tot g (fun x => x = r)) : ∃ k, g k = some r := by
  obtain ⟨q, h1, rfl⟩ := h
  exact h1.rounds

theorem w64 {x : Int} (h1 : -9223372036854775808 ≤ x) (h2 : x ≤ 9223372036854775807) : wrap64 x = x := by unfold wrap64; omega
theorem tmod_pos {a b : Int} (h : 0 ≤ a) : Int.tmod a b = a % b := Int.tmod_eq_emod_of_nonneg h
theorem tdiv_pos {a b : Int} (h : 0 ≤ a) : Int.tdiv a b = a / b := Int.tdiv_eq_ediv_of_nonneg h

-- reading and writing lists of numbers
theorem rd_set_self {xs : List Int} {i : Int} (v : Int) (h : i.toNat < xs.length) : rd (xs.set i.toNat v) i = v := by
  simp [rd, List.getD, h]
theorem rd_set_ne {xs : List Int} {i j : Int} (v : Int) (h0 : 0 ≤ i) (h1 : 0 ≤ j) (h : i ≠ j) : rd (xs.set i.toNat v) j = rd xs j := by
  have : i.toNat ≠ j.toNat := by omega
  simp [rd, List.getD, List.getElem?_set, this]
theorem rd_append_left {xs ys : List Int} {i : Int} (h : i.toNat < xs.length) : rd (xs ++ ys) i = rd xs i := by
  simp [rd, List.getD, List.getElem?_append_left h]
theorem rd_append_last {xs : List Int} {v : Int} {i : Int} (h : i.toNat = xs.length) : rd (xs ++ [v]) i = v := by
  simp [rd, List.getD, h]
theorem rd_mem {xs : List Int} {i : Int} (h : i.toNat < xs.length) : rd xs i ∈ xs := by
  simp [rd, List.getD, h]
theorem rd_range {xs : List Int} {P : Int → Prop} (hP : ∀ x ∈ xs, P x) {i : Int} (h0 : 0 ≤ i) (h : i < (xs.length : Int)) : P (rd xs i) := hP _ (rd_mem (by omega))
/-- Two lists of one length with the same elements. -/
theorem rd_ext {xs ys : List Int} (hl : xs.length = ys.length) (h : ∀ i : Int, 0 ≤ i → i < (xs.length : Int) → rd xs i = rd ys i) : xs = ys := by
  apply List.ext_getElem hl
  intro n h1 h2
  have := h (n : Int) (by omega) (by omega)
  simpa [rd, List.getD, h1, h2] using this
theorem mem_rd {xs : List Int} {x : Int} (h : x ∈ xs) : ∃ i : Int, 0 ≤ i ∧ i < (xs.length : Int) ∧ x = rd xs i := by
  obtain ⟨n, hn, rfl⟩ := List.getElem_of_mem h
  exact ⟨n, by omega, by omega, by simp [rd, List.getD, hn]⟩
theorem all_rd {xs : List Int} {P : Int → Prop} (h : ∀ i : Int, 0 ≤ i → i < (xs.length : Int) → P (rd xs i)) : ∀ x ∈ xs, P x := by
  intro x hx
  obtain ⟨i, h0, h1, rfl⟩ := mem_rd hx
  exact h i h0 h1
end Go.Proofs.Ytlpdklfijainaaa.Q
