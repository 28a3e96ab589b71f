/- slices.IndexFunc and slices.ContainsFunc at []string and a function value that may lay blocks of its own: what they answer, if each call of it at an element of the slice answers 'p' of it and turns nothing that was there. -/
import Derived.Test.YtnafocahllmpiaaDoorPx0
import Derived.Lib.Hide
import Derived.Shelf.Abstract
namespace Go.Proofs.YtnafocahllmpiaaDoor.P
open Go.RowKit Go.Proofs.YtnafocahllmpiaaDoorW.PrintWords
/-- A new block of one cell. -/
theorem newCell (w : World) (x : Value) (t : TypeId) : (w.alloc (.cells #[x] t)).cell? ⟨w.heap.size, 0, none⟩ = some x := by
  have h := cell_one_new w x t 0 x rfl
  rwa [add_plain] at h
/-- The first index from k on at which p holds, of so many elements to come; -1. -/
def idxFrom (p : ByteArray → Bool) : Nat → List ByteArray → Int
  | _, [] => -1
  | k, x :: r => if p x then (k : Int) else idxFrom p (k + 1) r
theorem idxFrom_drop (p : ByteArray → Bool) (xs : List ByteArray) (k : Nat) (h : k < xs.length) :
    idxFrom p k (xs.drop k) = if p (xs.getD k ByteArray.empty) then (k : Int) else idxFrom p (k + 1) (xs.drop (k + 1)) := by
  rw [List.drop_eq_getElem_cons h, idxFrom]
  simp [List.getD_eq_getElem?_getD, List.getElem?_eq_getElem h]
theorem idxFrom_any (p : ByteArray → Bool) (xs : List ByteArray) (k : Nat) : decide (0 ≤ idxFrom p k xs) = xs.any p := by
  induction xs generalizing k with
  | nil => rfl
  | cons x r ih =>
    rw [idxFrom, List.any_cons, ← ih (k + 1)]
    cases p x <;> simp
/-- What is asked of the function value. -/
def GivesOn (g : Nat) (lb : Array Value) (p : ByteArray → Bool) (xs : List ByteArray) (w : World) : Prop :=
  ∀ (W : World) (x : ByteArray), x ∈ xs → Below w.heap.size w W → Calls Tryd.prog g (#[.string x] ++ lb) W fun e w' => e = .returned (.bool (p x)) ∧ Below W.heap.size W w'
set_option maxHeartbeats 800000 in
set_option maxRecDepth 100000 in
theorem indexFunc_any (g : Nat) (lb : Array Value) (p : ByteArray → Bool) (eg : ∀ args w, (callFunc g args).run Tryd.prog w = .ok (.enter g args) w) (A : Option Addr) (c : Nat) (xs : List ByteArray) (w : World)
    (hr : Kd.C Kd.string w A xs.length xs) (hp : GivesOn g lb p xs w) :
    Calls Tryd.prog 39 #[.slice A xs.length c, .func (.func g) #[] lb] w fun e w' => e = .returned (.int .i64 (idxFrom p 0 xs)) ∧ Below w.heap.size w w' := by
  have hrd := Kd.reads_of_C (enc := Value.string) (d := ByteArray.empty) (h1 := fun _ => rfl) hr
  have hn : xs.length ≤ 9223372036854775807 := hrd.2.1
  have HR := Lib.hid hrd
  have HP := Lib.hid hp
  clear hr hrd hp
  go_enter Tryd.func39, Tryd.ntmps39
  go_wp2
  go_loopw [8] (fun i wr => ∃ k : Nat, k ≤ xs.length ∧ i = .int .i64 k ∧ Hid (Below w.heap.size w wr) ∧ Hid (idxFrom p 0 xs = idxFrom p k (xs.drop k))) (fun i _ => xs.length - (intOf i).toNat)
  case atStart => exact ⟨0, Nat.zero_le _, rfl, Lib.hid (Below.refl _ _), Lib.hid (by simp)⟩
  case round =>
    obtain ⟨k, hk, rfl, hb, hx⟩ := hrel
    by_cases hlt : k < xs.length
    · have hltz : (k : Int) < (xs.length : Int) := by omega
      obtain ⟨ad, rfl, hcell⟩ := (HR.out.below hb.out).2.2 (by omega)
      have l2 := hcell k hlt
      clear hcell
      have hxd := idxFrom_drop p xs k hlt
      have hmem : xs.getD k ByteArray.empty ∈ xs := by
        simp [List.getD_eq_getElem?_getD, List.getElem?_eq_getElem hlt]
      generalize hy : xs.getD k ByteArray.empty = y at l2 hxd hmem
      have hcall := HP.out wr y hmem hb.out
      have HX := Lib.hid hxd
      clear hy hxd hmem
      cases hq : p y with
      | true =>
        rw [hq] at hcall
        have HQ := Lib.hid hq
        have HC := Lib.hid hcall
        clear hq hcall
        go_wp2_with (go_at_fn g; refine HC.out.mono ?_; rintro e w' ⟨rfl, hb'⟩; have HB := Lib.hid hb'; clear hb')
        go_ret
        refine ⟨?_, below_then hb.out hb.out.size HB.out⟩
        rw [hx.out, HX.out, if_pos HQ.out]; rfl
      | false =>
        rw [hq] at hcall
        have HQ := Lib.hid hq
        have HC := Lib.hid hcall
        clear hq hcall
        go_wp2_with (go_at_fn g; refine HC.out.mono ?_; rintro e w' ⟨rfl, hb'⟩; have HB := Lib.hid hb'; clear hb')
        go_roundw
        case measure => simp [intOf]; omega
        case rel =>
          exact ⟨k + 1, by omega, by go_num, Lib.hid (below_then hb.out hb.out.size HB.out), Lib.hid (by rw [hx.out, HX.out, if_neg (by rw [HQ.out]; simp)])⟩
    · have hltz : ¬ (k : Int) < (xs.length : Int) := by omega
      obtain rfl : k = xs.length := by omega
      go_wp2
      go_ret
      refine ⟨?_, hb.out⟩
      rw [hx.out, List.drop_length]
      rfl
set_option maxHeartbeats 800000 in
set_option maxRecDepth 100000 in
theorem containsFunc_any (g : Nat) (lb : Array Value) (p : ByteArray → Bool) (eg : ∀ args w, (callFunc g args).run Tryd.prog w = .ok (.enter g args) w) (A : Option Addr) (c : Nat) (xs : List ByteArray) (w : World)
    (hr : Kd.C Kd.string w A xs.length xs) (hp : GivesOn g lb p xs w) :
    Calls Tryd.prog 21 #[.slice A xs.length c, .func (.func g) #[] lb] w fun e w' => e = .returned (.bool (xs.any p)) ∧ Below w.heap.size w w' := by
  have hc := indexFunc_any g lb p eg A c xs w hr hp
  rw [← idxFrom_any p xs 0]
  generalize idxFrom p 0 xs = z at hc ⊢
  have HC := Lib.hid hc
  clear hc hr hp eg
  go_enter Tryd.func21, Tryd.ntmps21
  go_wp2_with (go_at_call 39; refine HC.out.mono ?_; rintro e w' ⟨rfl, hb'⟩)
  go_ret
  exact ⟨rfl, hb'⟩
end Go.Proofs.YtnafocahllmpiaaDoor.P
