/- field.Match: is a tag among values? Conditions: texts shorter than 2^47 bytes (tested by its function). -/
import Derived.Test.YtnafocahllmpiaaDoorExtC
import Derived.Test.YtnafocahllmpiaaDoorExtS
import Derived.Test.YtnafocahllmpiaaDoorPx3
namespace Go.Proofs.YtnafocahllmpiaaDoor.P
open Go.RowKit Go.Shelf Go.Proofs.YtnafocahllmpiaaDoorW.PrintWords
/-- Does an element match a tag? -/
def matchP (t : ByteArray) (wk weak : Bool) (x : ByteArray) : Bool := (x.toList == [42]) || (tagIs x && (tagText x).toList == t.toList && (weak || (!wk && !tagWeak x)))
set_option maxHeartbeats 800000 in
set_option maxRecDepth 100000 in
theorem match1_any (t x : ByteArray) (wk weak : Bool) (W : World) (b1 b2 b3 : Nat) (h1 : W.cell? ⟨b1, 0, none⟩ = some (.string t)) (h2 : W.cell? ⟨b2, 0, none⟩ = some (.bool weak)) (h3 : W.cell? ⟨b3, 0, none⟩ = some (.bool wk)) (hx : x.size ≤ 140737488355328) :
    Calls Tryd.prog 22 #[.string x, .pointer (some ⟨b1, 0, none⟩), .pointer (some ⟨b2, 0, none⟩), .pointer (some ⟨b3, 0, none⟩)] W fun e w' => e = .returned (.bool (matchP t wk weak x)) ∧ Below W.heap.size W w' := by
  have hl1 := World.block_lt_of_cell? _ _ h1
  have hl2 := World.block_lt_of_cell? _ _ h2
  have hl3 := World.block_lt_of_cell? _ _ h3
  have hT : ∃ r1 r2 r3, field_Tag.f x = some (r1, r2, r3) ∧ matchP t wk weak x = ((x.toList == [42]) || (r3 && r1.toList == t.toList && (weak || (!wk && !r2)))) := by
    unfold field_Tag.f
    rw [if_pos hx]
    unfold matchP
    cases hti : tagIs x with
    | true => exact ⟨_, _, _, rfl, rfl⟩
    | false => exact ⟨_, _, _, rfl, by simp⟩
  obtain ⟨r1, r2, r3, ht, hm⟩ := hT
  rw [hm]
  have HT := Lib.hid ht
  have H1 := Lib.hid h1
  have H2 := Lib.hid h2
  have H3 := Lib.hid h3
  clear ht hm h1 h2 h3
  go_enter Tryd.func22, Tryd.ntmps22
  go_wp2_with (go_at_call 10; refine (field_Tag.calls x r1 r2 r3 _ HT.out).mono ?_; rintro e w' ⟨rfl, hb⟩; have g1 := (hb.cell (p := ⟨b1, 0, none⟩) hl1).trans H1.out; have g2 := (hb.cell (p := ⟨b2, 0, none⟩) hl2).trans H2.out; have g3 := (hb.cell (p := ⟨b3, 0, none⟩) hl3).trans H3.out; have HB := Lib.hid hb; clear hb)
  all_goals go_ret
  all_goals exact ⟨by simp [*], HB.out⟩
def field_Match.f (k : Nat) (l0 : List ByteArray) (a1 : ByteArray) (a2 : Bool) : Option Bool :=
  if a1.size ≤ 140737488355328 then (if tagIs a1 = true then ((field_Elements.f k l0).bind fun es => if es.all (fun e => decide (e.size ≤ 140737488355328)) = true then some (es.any (matchP (tagText a1) (tagWeak a1) a2)) else none) else some false) else none
theorem field_Match.mono : ∀ a0 a1 a2 k, LeO (field_Match.f k a0 a1 a2) (field_Match.f (k + 1) a0 a1 a2) := by
  intro a0 a1 a2 k
  unfold field_Match.f
  refine LeO.ite (LeO.ite (LeO.bind (field_Elements.mono a0 k) (fun _ => LeO.refl _)) (LeO.refl _)) (LeO.refl _)
set_option maxHeartbeats 800000 in
set_option maxRecDepth 100000 in
theorem field_Match.calls (k : Nat) (A0 : Option Addr) (c0 : Nat) (l0 : List ByteArray) (a1 : ByteArray) (a2 : Bool) (r : Bool) (w : World) (hr0 : Kd.C Kd.string w A0 l0.length l0) (hc0 : l0.length ≤ c0) (h : field_Match.f k l0 a1 a2 = some r) :
    Calls Tryd.prog 11 #[.slice A0 l0.length c0, .string a1, .bool a2] w fun e w' => e = .returned (.bool r) ∧ Below w.heap.size w w' := by
  unfold field_Match.f at h
  split at h
  case isFalse => cases h
  rename_i hs
  cases hti : tagIs a1 with
  | false =>
    rw [hti] at h
    obtain rfl : false = r := by simpa using h
    have ht : field_Tag.f a1 = some (⟨#[]⟩, false, false) := by unfold field_Tag.f; rw [if_pos hs, hti]; rfl
    have HT := Lib.hid ht
    clear ht hti h hr0
    go_enter Tryd.func11, Tryd.ntmps11
    go_wp2_with (go_at_call 10; refine (field_Tag.calls a1 _ _ _ _ HT.out).mono ?_; rintro e w' ⟨rfl, hb⟩; have HB := Lib.hid (below_step (below_alloc (Below.refl _ w) _) hb); clear hb)
    go_ret
    exact ⟨rfl, below_alloc (below_alloc HB.out _) _⟩
  | true =>
    rw [hti, if_pos rfl] at h
    obtain ⟨es, hes, h⟩ := Option.bind_eq_some_iff.1 h
    split at h
    case isFalse => cases h
    rename_i hall
    obtain rfl := Option.some.inj h
    have ht : field_Tag.f a1 = some (tagText a1, tagWeak a1, true) := by unfold field_Tag.f; rw [if_pos hs, hti]; rfl
    generalize tagText a1 = t1 at ht ⊢
    generalize tagWeak a1 = wk at ht ⊢
    have HT := Lib.hid ht
    have HR := Lib.hid hr0
    have HC := Lib.hid hc0
    have HE := Lib.hid hes
    have HA := Lib.hid hall
    have eg := enters_of (P := Tryd.prog) Tryd.func22 (by kernel_rfl) rfl
    clear ht hti h hr0 hc0 hes hall
    go_enter Tryd.func11, Tryd.ntmps11
    go_wp2_with fail
    refine (field_Tag.calls a1 _ _ _ _ HT.out).mono ?_
    rintro e w1 ⟨rfl, hb⟩
    have HB := Lib.hid (below_step (below_alloc (Below.refl _ w) _) hb)
    have hx : w1.cell? ⟨w.heap.size, 0, none⟩ = some (.bool a2) := (hb.cell (p := ⟨w.heap.size, 0, none⟩) (by simp)).trans (newCell w _ _)
    clear hb
    go_wp2_with fail
    have hb2 : Below w.heap.size w ((w1.alloc (.cells #[.string t1] 9)).alloc (.cells #[.bool wk] 4)) := below_alloc (below_alloc HB.out _) _
    have hc1 : ((w1.alloc (.cells #[.string t1] 9)).alloc (.cells #[.bool wk] 4)).cell? ⟨w1.heap.size, 0, none⟩ = some (.string t1) :=
      (pw_cell_below (below_alloc (Below.refl _ _) _) (newCell w1 (.string t1) 9))
    have hc2 : ((w1.alloc (.cells #[.string t1] 9)).alloc (.cells #[.bool wk] 4)).cell? ⟨w1.heap.size + 1, 0, none⟩ = some (.bool wk) := by
      have h := newCell (w1.alloc (.cells #[.string t1] 9)) (.bool wk) 4
      rwa [World.size_alloc] at h
    have hc3 : ((w1.alloc (.cells #[.string t1] 9)).alloc (.cells #[.bool wk] 4)).cell? ⟨w.heap.size, 0, none⟩ = some (.bool a2) :=
      pw_cell_below (below_alloc (below_alloc (Below.refl _ _) _) _) hx
    have H2 := Lib.hid hb2
    have C1 := Lib.hid hc1
    have C2 := Lib.hid hc2
    have C3 := Lib.hid hc3
    clear hb2 hc1 hc2 hc3 hx
    generalize (w1.alloc (.cells #[.string t1] 9)).alloc (.cells #[.bool wk] 4) = W at *
    refine (field_Elements.calls k A0 c0 l0 es _ (Kd.C_below HR.out H2.out) HC.out HE.out).mono ?_
    rintro e w3 ⟨v0, rfl, ho, hb3⟩
    obtain ⟨A, c, rfl, hle, hC⟩ := Kd.R_reads ho
    have c1 := pw_cell_below hb3 C1.out
    have c2 := pw_cell_below hb3 C2.out
    have c3 := pw_cell_below hb3 C3.out
    have H3 := Lib.hid (below_step H2.out hb3)
    have hg : GivesOn 22 #[.pointer (some ⟨w1.heap.size, 0, none⟩), .pointer (some ⟨w.heap.size, 0, none⟩), .pointer (some ⟨w1.heap.size + 1, 0, none⟩)] (matchP t1 wk a2) es w3 := fun W x hx hW =>
      match1_any t1 x wk a2 W _ _ _ (pw_cell_below hW c1) (pw_cell_below hW c3) (pw_cell_below hW c2) (by
        have := List.all_eq_true.1 HA.out x hx
        simpa using this)
    have HCF := Lib.hid (containsFunc_any 22 _ (matchP t1 wk a2) eg A c es w3 hC hg)
    clear hg c1 c2 c3 hb3 ho hle hC
    go_wp2_with fail
    refine HCF.out.mono ?_
    rintro e w4 ⟨rfl, hb4⟩
    have H4 := Lib.hid (below_step H3.out hb4)
    clear hb4
    go_wp2
    go_ret
    exact ⟨rfl, H4.out⟩
end Go.Proofs.YtnafocahllmpiaaDoor.P
