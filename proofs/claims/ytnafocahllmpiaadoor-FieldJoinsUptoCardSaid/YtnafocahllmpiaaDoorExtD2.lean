/- field.Directives: the directives of a list of fields. Conditions, tested by its function: sizes below 2^47; 'max-stale' is told with an argument (without one the code writes a number as text, which no caller here comes to). -/
import Derived.Test.YtnafocahllmpiaaDoorExtB
import Derived.Test.YtnafocahllmpiaaDoorExtS
import Derived.Test.YtnafocahllmpiaaDoorExtD1
import Derived.Test.YtnafocahllmpiaaDoorPx8
import Derived.Test.YtnafocahllmpiaaDoorPx7
import Derived.Test.YtnafocahllmpiaaDoorPx4
import Derived.Test.YtnafocahllmpiaaDoorPx3
namespace Go.Proofs.YtnafocahllmpiaaDoor.P
open Go.RowKit Go.Shelf Go.Proofs.YtnafocahllmpiaaDoorW.PrintWords
/-- What is known of the directives: flags 0 to 5, numbers 6 to 11. -/
structure Ctl where
  fl : Nat → Bool
  nm : Nat → Int
def ctlCell (c : Ctl) (j : Nat) : Value := if j < 6 then .bool (c.fl j) else .int .i64 (c.nm j)
def ctlCells (c : Ctl) : Array Value := #[.bool (c.fl 0), .bool (c.fl 1), .bool (c.fl 2), .bool (c.fl 3), .bool (c.fl 4), .bool (c.fl 5), .int .i64 (c.nm 6), .int .i64 (c.nm 7), .int .i64 (c.nm 8), .int .i64 (c.nm 9), .int .i64 (c.nm 10), .int .i64 (c.nm 11)]
theorem ctl_get (c : Ctl) : ∀ j, j < 12 → (ctlCells c)[j]? = some (ctlCell c j) := by
  intro j hj
  match j, hj with
  | 0, _ | 1, _ | 2, _ | 3, _ | 4, _ | 5, _ | 6, _ | 7, _ | 8, _ | 9, _ | 10, _ | 11, _ => rfl
def CtlAt (w : World) (B : Nat) (c : Ctl) : Prop := w.heap[B]? = some (.cells (ctlCells c) 42 (0, 0))
theorem CtlAt.cell {w : World} {B : Nat} {c : Ctl} (h : CtlAt w B c) (j : Nat) (hj : j < 12) : w.cell? ⟨B, j, none⟩ = some (ctlCell c j) := by
  unfold CtlAt at h
  simp only [World.cell?, h]
  exact ctl_get c j hj
theorem CtlAt.free {w : World} {B : Nat} {c : Ctl} (h : CtlAt w B c) (j : Nat) : w.frozen? ⟨B, j, none⟩ = false := by
  unfold CtlAt at h
  simp [World.frozen?, h]
def setFl (c : Ctl) (j : Nat) : Ctl := { c with fl := fun i => if i = j then true else c.fl i }
def setNm (c : Ctl) (j : Nat) (v : Int) : Ctl := { c with nm := fun i => if i = j then v else c.nm i }
theorem CtlAt.lt {w : World} {B : Nat} {c : Ctl} (h : CtlAt w B c) : B < w.heap.size := (Array.getElem?_eq_some_iff.1 h).1
theorem CtlAt.other {w w' : World} {B B' : Nat} {c : Ctl} (h : CtlAt w B c) (ho : Only B' w w') (hn : B ≠ B') : CtlAt w' B c :=
  (ho.block B h.lt hn).trans h
theorem CtlAt.below {w w' : World} {B : Nat} {c : Ctl} (h : CtlAt w B c) (hb : Below w.heap.size w w') : CtlAt w' B c :=
  (hb.block B h.lt).trans h
theorem CtlAt.put {w : World} {B : Nat} {c c' : Ctl} (h : CtlAt w B c) {j : Nat} {v : Value} (hc : (ctlCells c).setIfInBounds j v = ctlCells c') : CtlAt (w.setCell ⟨B, j, none⟩ v) B c' := by
  unfold CtlAt at h ⊢
  simp [World.setCell, Array.getElem?_modify, h, hc]
theorem CtlAt.setFl {w : World} {B : Nat} {c : Ctl} (h : CtlAt w B c) {j : Nat} (hj : j < 6) : CtlAt (w.setCell ⟨B, j, none⟩ (.bool true)) B (setFl c j) := by
  refine h.put ?_
  match j, hj with
  | 0, _ | 1, _ | 2, _ | 3, _ | 4, _ | 5, _ => rfl
theorem CtlAt.setNm {w : World} {B : Nat} {c : Ctl} (h : CtlAt w B c) {j : Nat} (hj : 6 ≤ j ∧ j < 12) (v : Int) : CtlAt (w.setCell ⟨B, j, none⟩ (.int .i64 v)) B (setNm c j v) := by
  refine h.put ?_
  match j, hj with
  | 6, _ | 7, _ | 8, _ | 9, _ | 10, _ | 11, _ => rfl
/-- A number that is told, unless it is told already. -/
def argStep (k : Nat) (c : Ctl) (j : Nat) (a : ByteArray) : Option Ctl := if c.nm j < 0 then (field_Seconds.f k a).bind fun r => some (setNm c j r.1) else some c
set_option maxHeartbeats 800000 in
set_option maxRecDepth 100000 in
theorem argument_any (k B j : Nat) (c c' : Ctl) (a : ByteArray) (w : World) (hj : 6 ≤ j ∧ j < 12) (hc : CtlAt w B c) (h : argStep k c j a = some c') :
    Calls Tryd.prog 34 #[.pointer (some ⟨B, j, none⟩), .string a] w fun e w' => (∃ v, e = .returned v) ∧ CtlAt w' B c' ∧ Only B w w' := by
  have g1 : w.cell? ⟨B, j, none⟩ = some (.int .i64 (c.nm j)) := by
    rw [hc.cell j hj.2]; have : ¬ j < 6 := by omega
    simp [ctlCell, this]
  have hB := World.block_lt_of_cell? _ _ g1
  have HC := Lib.hid hc
  unfold argStep at h
  by_cases hn : c.nm j < 0
  · rw [if_pos hn] at h
    obtain ⟨⟨r1, r2⟩, hr, h⟩ := Option.bind_eq_some_iff.1 h
    obtain rfl := Option.some.inj h
    have HR := Lib.hid hr
    clear hr h hc
    go_enter Tryd.func34, Tryd.ntmps34
    go_wp2_with fail
    refine (field_Seconds.calls k a r1 r2 _ HR.out).mono ?_
    rintro e w1 ⟨rfl, hb⟩
    have hc1 := HC.out.below hb
    have g2 : w1.cell? ⟨B, j, none⟩ = some (.int .i64 (c.nm j)) := (hb.cell (p := ⟨B, j, none⟩) hB).trans g1
    have g3 := hc1.free j
    have H1 := Lib.hid hc1
    have HB := Lib.hid hb
    clear hb hc1 g1
    go_wp2
    go_end0
    exact ⟨⟨_, rfl⟩, H1.out.setNm hj r1, (Only.of_below HB.out).trans (Only.setCell _)⟩
  · rw [if_neg hn] at h
    obtain rfl := Option.some.inj h
    clear h
    go_enter Tryd.func34, Tryd.ntmps34
    go_wp2
    go_end0
    exact ⟨⟨_, rfl⟩, HC.out, Only.refl _ _⟩
def flagTab : List (ByteArray × Nat) := [(⟨#[110, 111, 45, 115, 116, 111, 114, 101]⟩, 0), (⟨#[110, 111, 45, 99, 97, 99, 104, 101]⟩, 1), (⟨#[109, 117, 115, 116, 45, 114, 101, 118, 97, 108, 105, 100, 97, 116, 101]⟩, 2), (⟨#[112, 114, 111, 120, 121, 45, 114, 101, 118, 97, 108, 105, 100, 97, 116, 101]⟩, 2), (⟨#[112, 117, 98, 108, 105, 99]⟩, 3), (⟨#[112, 114, 105, 118, 97, 116, 101]⟩, 4), (⟨#[111, 110, 108, 121, 45, 105, 102, 45, 99, 97, 99, 104, 101, 100]⟩, 5)]
def numTab : List (ByteArray × Nat) := [(⟨#[109, 97, 120, 45, 97, 103, 101]⟩, 6), (⟨#[115, 45, 109, 97, 120, 97, 103, 101]⟩, 7), (⟨#[109, 105, 110, 45, 102, 114, 101, 115, 104]⟩, 8), (⟨#[109, 97, 120, 45, 115, 116, 97, 108, 101]⟩, 9), (⟨#[115, 116, 97, 108, 101, 45, 119, 104, 105, 108, 101, 45, 114, 101, 118, 97, 108, 105, 100, 97, 116, 101]⟩, 10), (⟨#[115, 116, 97, 108, 101, 45, 105, 102, 45, 101, 114, 114, 111, 114]⟩, 11)]
/-- Where a name's value stands. -/
def tabIx (k : ByteArray) : List (ByteArray × Nat) → Option Nat
  | [] => none
  | p :: r => if k == p.1 then some p.2 else tabIx k r
def tabVals (B : Nat) (t : List (ByteArray × Nat)) : List (ByteArray × Value) := t.map fun p => (p.1, .pointer (some ⟨B, p.2, none⟩))
theorem findIn_tab (k : ByteArray) (B : Nat) (t : List (ByteArray × Nat)) : ∀ i, (findIn k (tabVals B t) i).map (·.2) = (tabIx k t).map fun j => Value.pointer (some ⟨B, j, none⟩) := by
  induction t with
  | nil => intro i; rfl
  | cons p r ih =>
    intro i
    show (if k == p.1 then some (i, Value.pointer (some ⟨B, p.2, none⟩)) else findIn k (tabVals B r) (i + 1)).map (·.2) = _
    simp only [tabIx]
    cases k == p.1 with
    | true => rfl
    | false => exact ih (i + 1)
theorem valIn_tab (k : ByteArray) (B : Nat) (t : List (ByteArray × Nat)) : valIn k (tabVals B t) = .pointer ((tabIx k t).map fun j => ⟨B, j, none⟩) := by
  unfold valIn
  rw [findIn_tab]
  cases tabIx k t <;> rfl
theorem tabIx_mem {k : ByteArray} {t : List (ByteArray × Nat)} {j : Nat} (h : tabIx k t = some j) : ∃ p, p ∈ t ∧ p.2 = j := by
  induction t with
  | nil => cases h
  | cons p r ih =>
    simp only [tabIx] at h
    split at h
    · exact ⟨p, .head _, Option.some.inj h⟩
    · obtain ⟨q, hq, e⟩ := ih h
      exact ⟨q, .tail _ hq, e⟩
theorem flag_lt {k : ByteArray} {j : Nat} (h : tabIx k flagTab = some j) : j < 6 := by
  obtain ⟨p, hp, rfl⟩ := tabIx_mem h
  simp only [flagTab, List.mem_cons, List.mem_nil_iff, or_false] at hp
  rcases hp with rfl | rfl | rfl | rfl | rfl | rfl | rfl <;> decide
theorem num_lt {k : ByteArray} {j : Nat} (h : tabIx k numTab = some j) : 6 ≤ j ∧ j < 12 := by
  obtain ⟨p, hp, rfl⟩ := tabIx_mem h
  simp only [numTab, List.mem_cons, List.mem_nil_iff, or_false] at hp
  rcases hp with rfl | rfl | rfl | rfl | rfl | rfl <;> decide
/-- An argument without its quotes. -/
def dirUnq (a : ByteArray) : Option ByteArray :=
  if a.size ≤ 140737488355328 then if 1 < a.size then (strings_HasPrefix.f a ⟨#[34]⟩).bind fun p => if p = true then (strings_HasSuffix.f a ⟨#[34]⟩).bind fun s => if s = true then some (a.extract 1 (a.size - 1)) else some a else some a else some a else none
/-- What a flag's name does. -/
def flagStep (c : Ctl) (nm : ByteArray) : Ctl := match tabIx nm flagTab with | none => c | some j => setFl c j
theorem flagStep_none {c : Ctl} {nm : ByteArray} (h : tabIx nm flagTab = none) : flagStep c nm = c := by unfold flagStep; rw [h]
theorem flagStep_some {c : Ctl} {nm : ByteArray} {j : Nat} (h : tabIx nm flagTab = some j) : flagStep c nm = setFl c j := by unfold flagStep; rw [h]
/-- One directive. -/
def dirStep (k : Nat) (c : Ctl) (x : ByteArray) : Option Ctl :=
  (strings_Cut.f x ⟨#[61]⟩).bind fun t => (field_small.f t.1).bind fun nm => (dirUnq t.2.1).bind fun a =>
    if nm.toList = [109, 97, 120, 45, 115, 116, 97, 108, 101] ∧ t.2.2 = false then none else
      match tabIx nm numTab with
      | none => some (flagStep c nm)
      | some i => argStep k (flagStep c nm) i a
def dirAll (k : Nat) : List ByteArray → Ctl → Option Ctl
  | [], c => some c
  | x :: r, c => (dirStep k c x).bind (dirAll k r)
def ctl0 : Ctl := ⟨fun _ => false, fun _ => -1⟩
def field_Directives.f (k : Nat) (l0 : List (S45)) : Option (Bool × Bool × Bool × Bool × Bool × Bool × Int × Int × Int × Int × Int × Int) :=
  (field_All.f k l0 ⟨#[99, 97, 99, 104, 101, 45, 99, 111, 110, 116, 114, 111, 108]⟩).bind fun vs => (field_Elements.f k vs).bind fun es => (dirAll k es ctl0).bind fun c => some (c.fl 0, c.fl 1, c.fl 2, c.fl 3, c.fl 4, c.fl 5, c.nm 6, c.nm 7, c.nm 8, c.nm 9, c.nm 10, c.nm 11)
theorem argStep.mono (c : Ctl) (j : Nat) (a : ByteArray) (k : Nat) : LeO (argStep k c j a) (argStep (k + 1) c j a) := by
  unfold argStep
  exact LeO.ite (LeO.bind (field_Seconds.mono a k) (fun _ => LeO.refl _)) (LeO.refl _)
theorem dirStep.mono (c : Ctl) (x : ByteArray) (k : Nat) : LeO (dirStep k c x) (dirStep (k + 1) c x) := by
  unfold dirStep
  refine LeO.bind (LeO.refl _) fun t => LeO.bind (LeO.refl _) fun nm => LeO.bind (LeO.refl _) fun a => LeO.ite (LeO.refl _) ?_
  cases tabIx nm numTab with
  | none => exact LeO.refl _
  | some i => exact argStep.mono _ _ _ _
theorem dirAll.mono (k : Nat) : ∀ (l : List ByteArray) (c : Ctl), LeO (dirAll k l c) (dirAll (k + 1) l c)
  | [], _ => LeO.refl _
  | x :: r, c => LeO.bind (dirStep.mono c x k) (fun c' => dirAll.mono k r c')
theorem field_Directives.mono : ∀ a0 k, LeO (field_Directives.f k a0) (field_Directives.f (k + 1) a0) := by
  intro a0 k
  unfold field_Directives.f
  exact LeO.bind (field_All.mono _ _ k) fun vs => LeO.bind (field_Elements.mono vs k) fun es => LeO.bind (dirAll.mono k es ctl0) fun c => LeO.refl _

end Go.Proofs.YtnafocahllmpiaaDoor.P
