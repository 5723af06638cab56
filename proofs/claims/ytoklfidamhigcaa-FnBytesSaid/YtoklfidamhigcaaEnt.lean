/- From a call's contract to the given row: the arguments as they read. -/
import Derived.Test.YtoklfidamhigcaaW
import Derived.WalkKit
import Derived.ProofKit
import Derived.OpenShut
import Derived.ShutString
import Derived.ChangeOld
import Derived.Below
import Derived.SizedLaws
import Derived.ChangeSlices
import Derived.SliceStrings
namespace Go.Proofs.Ytoklfidamhigcaa.D
open Go.ChangeShapes Go.WideShapes Go.ChangeAt Go.RowKit
open Go.ChangeMaps (open_string)
set_option linter.unusedVariables false
set_option linter.unusedSimpArgs false

def cellsV (w : World) : View := fun x => w.cell? x
theorem satL0 (w : World) : SatL w [] (cellsV w) (fun _ => none) (Lof []) w :=
  ⟨Keep.refl _ _, fun _ _ h => h, fun x v p b n _ h => by simp at h, fun p q b n n' h => by simp at h, fun p b n h => by simp at h, fun p r h => by simp [Lof] at h, by simp, fun _ _ => rfl,
    fun p r h => by simp [Lof] at h, fun t => .one (.dead _), rfl, rfl⟩
/-- A law that gives true. -/
theorem enter_law {P : Program} {f : FuncId} {args : List SV} {w : World} {vs : List Value} (h : CallD P f args [] (vB true) []) (ha : Args (cellsV w) (fun _ => none) args vs) :
    Calls P f vs.toArray w (fun e w' => e = .returned (.bool true) ∧ Below w.heap.size w w') := by
  refine (h.2 w [] _ _ vs rfl (satL0 w) ha).mono ?_
  rintro e w' ⟨v, V', bs', res, Lo, rfl, ⟨rfl, rfl⟩, -, -, -, hs, hv, -⟩
  refine ⟨?_, hs.keep.below⟩
  cases hv with
  | one h => cases h with
    | dv h => cases h; rfl
theorem args0 {V : View} {b : Loc} : Args V b [] [] := ⟨rfl, fun i sv v h => by simp at h⟩
theorem argsC {V : View} {b : Loc} {a : SV} {v : Value} {as : List SV} {vs : List Value} (h : VR V b a v) (t : Args V b as vs) : Args V b (a :: as) (v :: vs) :=
  ⟨by simp [t.len], fun i sv u h1 h2 => by
    cases i with
    | zero => simp at h1 h2; subst h1; subst h2; exact h
    | succ i => exact t.get i sv u (by simpa using h1) (by simpa using h2)⟩
section
variable {H : Type} {enc : TypeId × Value → H} {P : Program} {W : World} {base : Nat} {sp : Nat → Bool} {held : Bool}
theorem u8_of {n : Int} (h : (Lit.int .u8 n).wf = true) : ∃ b : UInt8, n = b.toNat := by
  have : 0 ≤ n ∧ n < 256 := by
    simp [Lit.wf, IntKind.min, IntKind.max, IntKind.bits, IntKind.signed] at h
    omega
  exact ⟨u8 n, by rw [u8_val]; omega⟩
theorem list_of {α : Type} (p : α → Int → Prop) : ∀ (zs : List Int), (∀ n ∈ zs, ∃ a, p a n) → ∃ l : List α, l.length = zs.length ∧ ∀ i (h : i < l.length) (h2 : i < zs.length), p l[i] zs[i]
  | [], _ => ⟨[], rfl, fun i h => by simp at h⟩
  | z :: zs, h => by
    obtain ⟨a, ha⟩ := h z (by simp)
    obtain ⟨l, hl, hp⟩ := list_of p zs fun n hn => h n (by simp [hn])
    refine ⟨a :: l, by simp [hl], fun i h h2 => ?_⟩
    cases i with
    | zero => exact ha
    | succ i => exact hp i (by simpa using h) (by simpa using h2)
/-- Cells of one size at a slice's place. -/
theorem rd_cells {W : World} {x : Addr} {len cap : Nat} {es : List DV} {g : Nat → Value} (hl : es.length = len) (hc : len ≤ cap) (hg : ∀ i, i < len → W.cell? (x.add i) = some (g i))
    (hr : ∀ i (h : i < es.length), Rd (cellsV W) (g i) es[i]) : Rd (cellsV W) (.slice (some x) len cap) (.sl (es.map fun e => [e])) := by
  by_cases h0 : len = 0
  · subst h0
    have : es = [] := List.eq_nil_of_length_eq_zero hl
    subst this
    exact .nil _ _
  · have hx : x = ⟨x.block, x.off, none⟩ := by
      have h1 := hg 0 (by omega)
      have h2 : x.add 0 = x := by simp [Addr.add]
      rw [h2] at h1
      have h3 : x.spot = none := by
        simp only [World.cell?] at h1
        split at h1
        · split at h1
          · simp at h1
          · rename_i h; simpa using h
        · simp at h1
      cases x; simp_all
    have := Rd.sl (V := cellsV W) x.block x.off 1 cap (es.map fun e => [e]) (fun i _ => g i) (by simp; omega) (by simp) (fun i j hi hj => by
      have h1 := hg i (by simpa [hl] using hi)
      have h2 : x.add i = ⟨x.block, x.off + i * 1 + j, none⟩ := by
        rcases Nat.eq_zero_or_pos i with rfl | hi0
        · rw [show x.add 0 = x from by simp [Addr.add]]
          simp only [Nat.zero_mul, Nat.add_zero]
          have : j = 0 := by omega
          subst this
          exact hx
        · unfold Addr.add
          rw [if_neg (by omega)]
          have : j = 0 := by omega
          subst this
          simp
      rw [h2] at h1
      exact h1) (fun i j hi hj => by
      simp at hj
      subst hj
      simpa using hr i (by simpa using hi))
    rw [hx]
    simpa [hl] using this
theorem in_bytes {t e : TypeId} {a : Option Addr} {len cap : Nat} {d : DataW H} {ps : List MemPlace} {ts : List TypeId} {ds : List (DataW H)} {j : Nat} (hsz : (DataW.weightsEach P ts ds).all (· ≤ reachBytes) = true) (h1 : ts[j]? = some t) (h2 : ds[j]? = some d)
    (ht : P.underlying t = some (.slice e)) (he : P.underlying e = some (.int .u8)) (hc : P.cellsOf e = 1) (hb : P.bytesOf e = 1)
    (h : DataW.Trod enc P W base sp held t (.slice a len cap) d ps) : ∃ l : List UInt8, l.length = len ∧ l.length ≤ 2 ^ 47 ∧ Rd (cellsV W) (.slice a len cap) (.sl (l.map byD)) := by
  obtain ⟨fuel, hf⟩ := h
  rcases open_ints ht he hc hf with ⟨hcs, _⟩ | ⟨x, l, c, zs, hcs, _, hl, hm, hz, hx, hcell, hwz⟩
  · simp [Value.cells] at hcs
    obtain ⟨rfl, rfl, rfl⟩ := hcs
    exact ⟨[], rfl, by simp, .nil _ _⟩
  · simp [Value.cells] at hcs
    obtain ⟨rfl, rfl, rfl⟩ := hcs
    obtain ⟨hx, _⟩ := Prod.mk.inj hx
    subst hx
    have z := sized_slice hsz h1 h2 ht
    have hr := reachBytes_lt
    rw [hb] at z
    have hll : (lits (H := H) .u8 (zs.take len)).length + (lits (H := H) .u8 (zs.drop len)).length = zs.length := by
      simp [lits]; omega
    have hzl : len ≤ zs.length := by rw [hz]; split <;> omega
    obtain ⟨bsl, hbl, hp⟩ := list_of (fun (b : UInt8) n => n = b.toNat) zs fun n hn => u8_of (hwz n hn)
    refine ⟨bsl.take len, by simp; omega, by simp; omega, ?_⟩
    have := rd_cells (W := W) (x := x) (len := len) (cap := cap) (es := (bsl.take len).map fun b => DV.sc (.int .u8 b.toNat)) (g := fun i => .int .u8 (zs.getD i 0)) (by simp; omega) hl (fun i hi => hcell i (by omega)) (fun i hi => by
      simp only [List.length_map, List.length_take] at hi
      have := hp i (by omega) (by omega)
      simp only [List.getElem_map, List.getElem_take]
      rw [show zs.getD i 0 = zs[i]'(by omega) by simp [List.getD, show i < zs.length by omega], this]
      exact .sc _ rfl)
    rw [List.map_map] at this
    exact this
theorem in_string {r : Reach} {b0 : Nat} {t : TypeId} {v : Value} {d : DataW H} {ps : List MemPlace} {ts : List TypeId} {ds : List (DataW H)} {j : Nat} (hsz : (DataW.weightsEach P ts ds).all (· ≤ reachBytes) = true) (h1 : ts[j]? = some t) (h2 : ds[j]? = some d)
    (ht : P.underlying t = some .string) (hval : Value.okWide P W r b0 t v) (hd : DataW.Trod enc P W base sp held t v d ps) : ∃ l : List UInt8, v = .string (bs l) ∧ l.length ≤ 2 ^ 47 := by
  obtain ⟨s, rfl, rfl, _, _⟩ := open_string ht hval hd
  have := sized_string hsz h1 h2
  have hr := reachBytes_lt
  exact ⟨s.data.toList, by cases s; rfl, by omega⟩
theorem in_int {r : Reach} {b0 : Nat} {t : TypeId} {v : Value} {d : DataW H} {ps : List MemPlace} (ht : P.underlying t = some (.int .i64)) (hval : Value.okWide P W r b0 t v) (hd : DataW.Trod enc P W base sp held t v d ps) :
    ∃ n : Int, v = .int .i64 n ∧ -9223372036854775808 ≤ n ∧ n ≤ 9223372036854775807 := by
  obtain ⟨n, rfl, _, _, h⟩ := open_int ht hval hd
  simp [Lit.wf, IntKind.min, IntKind.max, IntKind.bits, IntKind.signed] at h
  exact ⟨n, rfl, by omega, by omega⟩
theorem vrY {l : List UInt8} {v : Value} {b : Loc} (h : Rd (cellsV W) v (.sl (l.map byD))) : VR (cellsV W) b (vY l) v := .one (.dv h)
theorem vrI {k : IntKind} {n : Int} {V : View} {b : Loc} : VR V b (vI k n) (.int k n) := .one (.dv (.sc _ rfl))
theorem vrS {s : ByteArray} {V : View} {b : Loc} : VR V b (vS s) (.string s) := .one (.dv (.sc _ rfl))
theorem vrB {s : Bool} {V : View} {b : Loc} : VR V b (vB s) (.bool s) := .one (.dv (.sc _ rfl))
end
end Go.Proofs.Ytoklfidamhigcaa.D
