/- Maps with written string keys and elements that are pointers: what a store of a new key and a look-up do. No conditions of its own. -/
import Derived.Test.YtnafocahllmpiaaDoorPx0
import Derived.Lib.Hide
import Derived.MapKept
namespace Go.Proofs.YtnafocahllmpiaaDoor.P
open Go.RowKit Go.MapKept Go.Proofs.YtnafocahllmpiaaDoorW.PrintWords
/-- Nothing that was there has turned but block B. -/
structure Only (B : Nat) (w w' : World) : Prop where
  os : w'.os = w.os
  tape : w'.tape = w.tape
  output : w'.output = w.output
  size : w.heap.size ≤ w'.heap.size
  block : ∀ k, k < w.heap.size → k ≠ B → w'.heap[k]? = w.heap[k]?
theorem Only.refl (B : Nat) (w : World) : Only B w w := ⟨rfl, rfl, rfl, Nat.le_refl _, fun _ _ _ => rfl⟩
theorem Only.trans {B : Nat} {a b c : World} (h : Only B a b) (k : Only B b c) : Only B a c :=
  ⟨k.os.trans h.os, k.tape.trans h.tape, k.output.trans h.output, Nat.le_trans h.size k.size, fun i hi hn => (k.block i (Nat.lt_of_lt_of_le hi h.size) hn).trans (h.block i hi hn)⟩
theorem Only.of_below {B : Nat} {w w' : World} (h : Below w.heap.size w w') : Only B w w' := ⟨h.os, h.tape, h.output, h.size, fun k hk _ => h.block k hk⟩
theorem Only.below {n B : Nat} {w0 w w' : World} (h : Only B w w') (hb : Below n w0 w) (hn : n ≤ B) (hs : n ≤ w.heap.size) : Below n w0 w' :=
  hb.trans ⟨h.os, h.tape, h.output, h.size, fun k hk => h.block k (by omega) (by omega)⟩
theorem Only.cell {B : Nat} {w w' : World} (h : Only B w w') {p : Addr} (hp : p.block ≠ B) {v : Value} (hc : w.cell? p = some v) : w'.cell? p = some v :=
  (World.cell?_of_block (w := w) (h.block p.block (World.block_lt_of_cell? _ _ hc) hp)).trans hc
theorem Only.setCell {B j : Nat} {w : World} (v : Value) : Only B w (w.setCell ⟨B, j, none⟩ v) :=
  ⟨rfl, rfl, rfl, by simp [World.setCell], fun k _ hn => Below.heap_setCell _ _ _ _ hn⟩
/-- A map's entries, in the order in which they were put in. -/
def ents : Nat → List (ByteArray × Value) → List MapEntry
  | _, [] => []
  | i, p :: r => ⟨.string p.1, p.2, i⟩ :: ents (i + 1) r
def MapAt (w : World) (r : Nat) (l : List (ByteArray × Value)) : Prop := w.heap[r]? = some (.map (ents 0 l).toArray l.length)
def findIn (k : ByteArray) : List (ByteArray × Value) → Nat → Option (Nat × Value)
  | [], _ => none
  | p :: r, j => if k == p.1 then some (j, p.2) else findIn k r (j + 1)
theorem findNow_ents (k : ByteArray) (l : List (ByteArray × Value)) : ∀ i j, Instr.findNow .string (.string k) (ents i l) j = some (findIn k l j) := by
  induction l with
  | nil => intro i j; rfl
  | cons p r ih =>
    intro i j
    simp only [ents, Instr.findNow, Instr.sameNow, findIn]
    cases h : (k == p.1) with
    | true => simp
    | false => simp [ih]
theorem ents_append (l : List (ByteArray × Value)) (p : ByteArray × Value) : ∀ i, ents i (l ++ [p]) = ents i l ++ [⟨.string p.1, p.2, i + l.length⟩] := by
  induction l with
  | nil => intro i; simp [ents]
  | cons q r ih => intro i; simp [ents, ih]; omega
theorem findIn_none {k : ByteArray} {l : List (ByteArray × Value)} (h : l.all (fun p => !(k == p.1)) = true) : ∀ j, findIn k l j = none := by
  induction l with
  | nil => intro j; rfl
  | cons p r ih =>
    intro j
    simp only [List.all_cons, Bool.and_eq_true, Bool.not_eq_true'] at h
    simp only [findIn, h.1]
    exact ih h.2 _
/-- What a look-up answers. -/
def valIn (k : ByteArray) (l : List (ByteArray × Value)) : Value := ((findIn k l 0).map (·.2)).getD (.pointer none)
section
variable {P : Program} {T K E : TypeId}
theorem look_run (hT : P.underlying T = some (.map K E)) (hK : P.underlying K = some .string) (hz : ∀ w, (zeroValue E).run P w = .ok (.pointer none) w) {w : World} {r : Nat} {l : List (ByteArray × Value)} (h : MapAt w r l) (k : ByteArray) :
    (Instr.lookup T (.map (some r)) (.string k) false).run P w = .ok (valIn k l) w := by
  unfold MapAt at h
  have hck := fun e => run_checkKey (P := P) (w := w) (k := .string k) hK trivial e 9999
  have hfk := fun a ha => run_findKey (P := P) (w := w) (k := .string k) (l := ents 0 l) (a := a) hK ha
  cases hf : findIn k l 0 with
  | none =>
    have hfk := hfk none (by rw [findNow_ents, hf])
    simp [Instr.lookup, run_underlying hT, MapKept.run_getObj_map h, hfk, hck, hf, hz, Result.andThen, valIn]
  | some p =>
    have hfk := hfk (some p) (by rw [findNow_ents, hf])
    simp [Instr.lookup, run_underlying hT, MapKept.run_getObj_map h, hfk, hck, hf, Result.andThen, valIn]
theorem put_run (hT : P.underlying T = some (.map K E)) (hK : P.underlying K = some .string) {w : World} {r : Nat} {l : List (ByteArray × Value)} (h : MapAt w r l) (k : ByteArray) (v : Value) (hk : l.all (fun p => !(k == p.1)) = true) :
    ∃ w', (Instr.mapUpdate T (.map (some r)) (.string k) v).run P w = .ok () w' ∧ MapAt w' r (l ++ [(k, v)]) ∧ Only r w w' ∧ w'.heap.size = w.heap.size := by
  unfold MapAt at h
  refine ⟨{ w with heap := w.heap.setIfInBounds r (.map ((ents 0 l).toArray.push ⟨.string k, v, l.length⟩) (l.length + 1)) }, ?_, ?_, ?_, by simp⟩
  · have hck := fun e => run_checkKey (P := P) (w := w) (k := .string k) hK trivial e 9999
    have hfk := run_findKey (P := P) (w := w) (k := .string k) (l := ents 0 l) (a := none) hK (by rw [findNow_ents, findIn_none hk])
    simp [Instr.mapUpdate, run_underlying hT, MapKept.run_getObj_map h, hfk, hck, MapKept.run_setObj_map _ h, Result.andThen]
  · have hlt : r < w.heap.size := (Array.getElem?_eq_some_iff.1 h).1
    unfold MapAt
    simp [ents_append, hlt]
  · refine ⟨rfl, rfl, rfl, by simp, fun j _ hn => ?_⟩
    simp [Array.getElem?_setIfInBounds, Ne.symm hn]
end
end Go.Proofs.YtnafocahllmpiaaDoor.P
