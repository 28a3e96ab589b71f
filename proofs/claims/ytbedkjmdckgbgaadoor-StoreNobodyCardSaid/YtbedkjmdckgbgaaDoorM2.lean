/- A part of a proof: texts laid one behind the other by merge.py. -/
import Derived.Test.YtbedkjmdckgbgaaDoorM1
import Derived.Lib.Hide
import Derived.Shelf.Abstract
import Derived.WalkKit
import Derived.BigRegion
import Derived.Deep.RegionWith
import Derived.Deep.WholeRow
import Derived.RangeFuncRecord
import Derived.Laws.CopyOwn
import Derived.RangeFuncNested
import Derived.RangeFuncLeaves
import Derived.RangeFuncBox
import Derived.RangeFuncCalls
import Derived.OwnWalkIn
import Derived.TacticsInMore
import Derived.LoopNIn
import Derived.LoopIn
import Derived.Shelf.RegionOpen
import Derived.Shelf.AbstractIn
import Derived.BigQuiet
import Derived.Deep.QuietTactic
import Derived.OrdersIn
import Derived.OrdersHeld
import Derived.TacticsIn
import Derived.KernelRfl
-- printed by xprint.py (the kit's print with hand-made contracts beside it). Not trusted: Lean checks it.
namespace Go.Proofs.YtbedkjmdckgbgaaDoor.P
open Go.RowKit Go.Proofs.YtbedkjmdckgbgaaDoorW.PrintWords Go.Proofs.YtbedkjmdckgbgaaDoorW.PrintLast Go.Proofs.YtbedkjmdckgbgaaDoorW.PrintMore
attribute [local go_sem] max2_int min2_int max_two min_two max_three min_three max_four min_four   -- for this text's walks alone
set_option linter.unusedVariables false
set_option linter.unusedSimpArgs false

/-! ### turnbuckleref20_One: function 9 -/
def turnbuckleref20_One.f (k : Nat) (a0_0 : ByteArray) (a0_1 : ByteArray) (a0_2 : ByteArray) (a0_3 : ByteArray) (l0_4 : List (S63)) (l0_5 : List Int) (a0_6 : Int) (l0_7 : List (S63)) (l0_8 : List Int) (a0_9 : Int) (a0_10 : Int) (a1_0 : ByteArray) (a1_1 : ByteArray) (a1_2 : ByteArray) (a1_3 : ByteArray) (l1_4 : List (S63)) (l1_5 : List Int) (a1_6 : Int) (l1_7 : List (S63)) (l1_8 : List Int) (a1_9 : Int) (a1_10 : Int) : Option (Bool) := if a0_9 = a1_9 then (if a0_10 = a1_10 then ((turnbuckleref15_SameRequest.f k a0_0 a0_1 a0_2 a0_3 l0_4 l0_5 a1_0 a1_1 a1_2 a1_3 l1_4 l1_5).bind fun t161 => (if t161 = true then ((turnbuckleref15_SameResponse.f k a0_6 l0_7 l0_8 a1_6 l1_7 l1_8).bind fun t162 => (some t162)) else (some false))) else (some false)) else (some false)
theorem turnbuckleref20_One.mono : ∀ a0 a1 a2 a3 a4 a5 a6 a7 a8 a9 a10 a11 a12 a13 a14 a15 a16 a17 a18 a19 a20 a21 k, LeO (turnbuckleref20_One.f k a0 a1 a2 a3 a4 a5 a6 a7 a8 a9 a10 a11 a12 a13 a14 a15 a16 a17 a18 a19 a20 a21) (turnbuckleref20_One.f (k + 1) a0 a1 a2 a3 a4 a5 a6 a7 a8 a9 a10 a11 a12 a13 a14 a15 a16 a17 a18 a19 a20 a21) := by
  intro a0 a1 a2 a3 a4 a5 a6 a7 a8 a9 a10 a11 a12 a13 a14 a15 a16 a17 a18 a19 a20 a21 k
  unfold turnbuckleref20_One.f
  repeat' first
      | (with_reducible exact turnbuckleref15_SameRequest.mono _ _ _ _ _ _ _ _ _ _ _ _ _)
      | (with_reducible exact turnbuckleref15_SameResponse.mono _ _ _ _ _ _ _)
      | (with_reducible exact LeO.refl _)
      | (with_reducible exact LeO.none _)
      | (with_reducible refine LeO.ite ?_ ?_)
      | (with_reducible refine LeO.bind ?_ (fun _ => ?_))
      | exact turnbuckleref15_SameRequest.mono _ _ _ _ _ _ _ _ _ _ _ _ _
      | exact turnbuckleref15_SameResponse.mono _ _ _ _ _ _ _
      | exact LeO.none _
      | refine LeO.ite ?_ ?_
      | refine LeO.bind ?_ (fun _ => ?_)
set_option maxHeartbeats 8000000 in
set_option maxRecDepth 100000 in
theorem turnbuckleref20_One.calls (k : Nat) (a0_0 : ByteArray) (a0_1 : ByteArray) (a0_2 : ByteArray) (a0_3 : ByteArray) (A0_4 : Option Addr) (c0_4 : Nat) (l0_4 : List (S63)) (A0_5 : Option Addr) (c0_5 : Nat) (l0_5 : List Int) (a0_6 : Int) (A0_7 : Option Addr) (c0_7 : Nat) (l0_7 : List (S63)) (A0_8 : Option Addr) (c0_8 : Nat) (l0_8 : List Int) (a0_9 : Int) (a0_10 : Int) (a1_0 : ByteArray) (a1_1 : ByteArray) (a1_2 : ByteArray) (a1_3 : ByteArray) (A1_4 : Option Addr) (c1_4 : Nat) (l1_4 : List (S63)) (A1_5 : Option Addr) (c1_5 : Nat) (l1_5 : List Int) (a1_6 : Int) (A1_7 : Option Addr) (c1_7 : Nat) (l1_7 : List (S63)) (A1_8 : Option Addr) (c1_8 : Nat) (l1_8 : List Int) (a1_9 : Int) (a1_10 : Int) (r : Bool) (w : World) (hr0_4 : Kd.C k63 w A0_4 l0_4.length l0_4) (hc0_4 : l0_4.length ≤ c0_4) (hr0_5 : Kd.C (Kd.int .u8) w A0_5 l0_5.length l0_5) (hc0_5 : l0_5.length ≤ c0_5) (hr0_7 : Kd.C k63 w A0_7 l0_7.length l0_7) (hc0_7 : l0_7.length ≤ c0_7) (hr0_8 : Kd.C (Kd.int .u8) w A0_8 l0_8.length l0_8) (hc0_8 : l0_8.length ≤ c0_8) (hr1_4 : Kd.C k63 w A1_4 l1_4.length l1_4) (hc1_4 : l1_4.length ≤ c1_4) (hr1_5 : Kd.C (Kd.int .u8) w A1_5 l1_5.length l1_5) (hc1_5 : l1_5.length ≤ c1_5) (hr1_7 : Kd.C k63 w A1_7 l1_7.length l1_7) (hc1_7 : l1_7.length ≤ c1_7) (hr1_8 : Kd.C (Kd.int .u8) w A1_8 l1_8.length l1_8) (hc1_8 : l1_8.length ≤ c1_8) (h : turnbuckleref20_One.f k a0_0 a0_1 a0_2 a0_3 l0_4 l0_5 a0_6 l0_7 l0_8 a0_9 a0_10 a1_0 a1_1 a1_2 a1_3 l1_4 l1_5 a1_6 l1_7 l1_8 a1_9 a1_10 = some r) :
    Calls Tryd.prog 9 #[.agg #[.string a0_0, .string a0_1, .string a0_2, .string a0_3, .slice A0_4 l0_4.length c0_4, .slice A0_5 l0_5.length c0_5, .int .i64 a0_6, .slice A0_7 l0_7.length c0_7, .slice A0_8 l0_8.length c0_8, .int .i64 a0_9, .int .i64 a0_10], .agg #[.string a1_0, .string a1_1, .string a1_2, .string a1_3, .slice A1_4 l1_4.length c1_4, .slice A1_5 l1_5.length c1_5, .int .i64 a1_6, .slice A1_7 l1_7.length c1_7, .slice A1_8 l1_8.length c1_8, .int .i64 a1_9, .int .i64 a1_10]] w fun e w' => e = .returned (.bool r) ∧ Below w.heap.size w w' := by
  have hu36 := Tryd.underlying36
  have hu32 := Tryd.underlying32
  have hu34 := Tryd.underlying34
  have HR0_4 := Aside0.mk hr0_4
  have HC0_4 := Aside0.mk hc0_4
  clear hr0_4 hc0_4
  have HR0_5 := Aside0.mk hr0_5
  have HC0_5 := Aside0.mk hc0_5
  clear hr0_5 hc0_5
  have HR0_7 := Aside0.mk hr0_7
  have HC0_7 := Aside0.mk hc0_7
  clear hr0_7 hc0_7
  have HR0_8 := Aside0.mk hr0_8
  have HC0_8 := Aside0.mk hc0_8
  clear hr0_8 hc0_8
  have HR1_4 := Aside0.mk hr1_4
  have HC1_4 := Aside0.mk hc1_4
  clear hr1_4 hc1_4
  have HR1_5 := Aside0.mk hr1_5
  have HC1_5 := Aside0.mk hc1_5
  clear hr1_5 hc1_5
  have HR1_7 := Aside0.mk hr1_7
  have HC1_7 := Aside0.mk hc1_7
  clear hr1_7 hc1_7
  have HR1_8 := Aside0.mk hr1_8
  have HC1_8 := Aside0.mk hc1_8
  clear hr1_8 hc1_8
  have HB := Aside0.mk (Below.refl w.heap.size w)
  have H : (if a0_9 = a1_9 then (if a0_10 = a1_10 then ((turnbuckleref15_SameRequest.f k a0_0 a0_1 a0_2 a0_3 l0_4 l0_5 a1_0 a1_1 a1_2 a1_3 l1_4 l1_5).bind fun t161 => (if t161 = true then ((turnbuckleref15_SameResponse.f k a0_6 l0_7 l0_8 a1_6 l1_7 l1_8).bind fun t162 => (some t162)) else (some false))) else (some false)) else (some false)) = some r := h
  clear h
  by_cases c3 : a0_9 = a1_9
  · rw [if_pos c3] at H
    have c3b0 : (a0_9 == a1_9) = true := beq_iff_eq.mpr c3
    have c3b1 : (a0_9 != a1_9) = false := bne_eq_false_iff_eq.mpr c3
    clear c3
    by_cases c4 : a0_10 = a1_10
    · rw [if_pos c4] at H
      have c4b0 : (a0_10 == a1_10) = true := beq_iff_eq.mpr c4
      have c4b1 : (a0_10 != a1_10) = false := bne_eq_false_iff_eq.mpr c4
      clear c4
      replace H := Option.bind_eq_some_iff.mp H
      obtain ⟨t161, A50, H⟩ := H
      replace H : (if t161 = true then ((turnbuckleref15_SameResponse.f k a0_6 l0_7 l0_8 a1_6 l1_7 l1_8).bind fun t162 => (some t162)) else (some false)) = some r := H
      have A5 := Aside0.mk A50
      clear A50
      by_cases c6 : t161 = true
      · subst c6
        have H1 : ((turnbuckleref15_SameResponse.f k a0_6 l0_7 l0_8 a1_6 l1_7 l1_8).bind fun t162 => (some t162)) = some r := by rw [if_pos rfl] at H; exact H
        clear H
        have H := H1
        clear H1
        replace H := Option.bind_eq_some_iff.mp H
        obtain ⟨t162, A70, H⟩ := H
        replace H : (some t162) = some r := H
        have A7 := Aside0.mk A70
        clear A70
        obtain rfl := Option.some.inj H
        go_enter Tryd.func9, Tryd.ntmps9
        go_wp2_with (first | ((with_reducible refine gate_dst (N := 2) rfl ?_); refine box_event ?hg (N := 2) ?hd (cs := #[.string a0_0, .string a0_1, .string a0_2, .string a0_3, .slice A0_4 l0_4.length c0_4, .slice A0_5 l0_5.length c0_5, .int .i64 a0_6, .slice A0_7 l0_7.length c0_7, .slice A0_8 l0_8.length c0_8, .int .i64 a0_9, .int .i64 a0_10]) (t := 36) ?hr ?_; (case hd => rfl); (case hg => rfl); (case hr => first | (go_simp; done) | (go_simp; rfl)); intro gb159 hg w8 hbox hb; have n0_ := Aside0.mk (below_step (by repeat (first | (with_reducible first | exact HB.out | apply below_alloc | apply pw_below_drewN | apply below_drew1) | exact HB.out)) hb); have n1_ := Aside0.mk (hbox); have n2_ := Aside0.mk ((by rw [hg]; exact (below_size (by repeat (first | (with_reducible first | exact HB.out | apply below_alloc | apply pw_below_drewN | apply below_drew1) | exact HB.out))) : w.heap.size ≤ gb159)); have n3_ := Aside0.mk ((by rw [hg]; exact (below_size (by repeat (first | (with_reducible first | exact HB.out | apply below_alloc | apply pw_below_drewN | apply below_drew1) | exact HB.out))) : w.heap.size ≤ gb159)); clear HB; have HB := n0_; have BK159 := n1_; have GW159 := n2_; have GE159 := n3_; clear n0_ n1_ n2_ n3_; clear hb hbox hg) | ((with_reducible refine gate_dst (N := 3) rfl ?_); refine box_event ?hg (N := 3) ?hd (cs := #[.string a1_0, .string a1_1, .string a1_2, .string a1_3, .slice A1_4 l1_4.length c1_4, .slice A1_5 l1_5.length c1_5, .int .i64 a1_6, .slice A1_7 l1_7.length c1_7, .slice A1_8 l1_8.length c1_8, .int .i64 a1_9, .int .i64 a1_10]) (t := 36) ?hr ?_; (case hd => rfl); (case hg => rfl); (case hr => first | (go_simp; done) | (go_simp; rfl)); intro gb160 hg w9 hbox hb; have n0_ := Aside0.mk (blk_below (g := gb159) (o := .cells #[.string a0_0, .string a0_1, .string a0_2, .string a0_3, .slice A0_4 l0_4.length c0_4, .slice A0_5 l0_5.length c0_5, .int .i64 a0_6, .slice A0_7 l0_7.length c0_7, .slice A0_8 l0_8.length c0_8, .int .i64 a0_9, .int .i64 a0_10] 36 (0, 0)) (by (with_reducible repeat (first | refine blk_drewN ?_ _ | refine blk_drew ?_ | refine blk_alloc ?_ _)); exact BK159.out) hb); have n1_ := Aside0.mk (below_step (by repeat (first | (with_reducible first | exact HB.out | apply below_alloc | apply pw_below_drewN | apply below_drew1 | refine below_set ?_ GE159.out) | exact HB.out)) hb); have n2_ := Aside0.mk (hbox); have n3_ := Aside0.mk ((by rw [hg]; exact (below_size (by repeat (first | (with_reducible first | exact HB.out | apply below_alloc | apply pw_below_drewN | apply below_drew1 | refine below_set ?_ GE159.out) | exact HB.out))) : w.heap.size ≤ gb160)); have n4_ := Aside0.mk ((by rw [hg]; exact (below_size (by repeat (first | (with_reducible first | exact HB.out | apply below_alloc | apply pw_below_drewN | apply below_drew1 | refine below_set ?_ GE159.out) | exact HB.out))) : w.heap.size ≤ gb160)); have n5_ := Aside0.mk ((by rw [hg]; exact Nat.ne_of_lt (blk_lt (g := gb159) (o := .cells #[.string a0_0, .string a0_1, .string a0_2, .string a0_3, .slice A0_4 l0_4.length c0_4, .slice A0_5 l0_5.length c0_5, .int .i64 a0_6, .slice A0_7 l0_7.length c0_7, .slice A0_8 l0_8.length c0_8, .int .i64 a0_9, .int .i64 a0_10] 36 (0, 0)) (by (with_reducible repeat (first | refine blk_drewN ?_ _ | refine blk_drew ?_ | refine blk_alloc ?_ _)); exact BK159.out)) : gb159 ≠ gb160)); have n6_ := Aside0.mk ((by rw [hg]; exact Nat.ne_of_gt (blk_lt (g := gb159) (o := .cells #[.string a0_0, .string a0_1, .string a0_2, .string a0_3, .slice A0_4 l0_4.length c0_4, .slice A0_5 l0_5.length c0_5, .int .i64 a0_6, .slice A0_7 l0_7.length c0_7, .slice A0_8 l0_8.length c0_8, .int .i64 a0_9, .int .i64 a0_10] 36 (0, 0)) (by (with_reducible repeat (first | refine blk_drewN ?_ _ | refine blk_drew ?_ | refine blk_alloc ?_ _)); exact BK159.out)) : gb160 ≠ gb159)); clear BK159; clear HB; have BK159 := n0_; have HB := n1_; have BK160 := n2_; have GW160 := n3_; have GE160 := n4_; have NB159_160 := n5_; have NB160_159 := n6_; clear n0_ n1_ n2_ n3_ n4_ n5_ n6_; clear hb hbox hg; have hnb10 := NB159_160.out; have hnc10 := NB160_159.out; have hcz11_0 : w9.cell? ⟨gb159, 0, none⟩ = some (.string a0_0) := (blk_cell BK159.out 0).trans rfl; have hcz11_1 : w9.cell? ⟨gb159, 1, none⟩ = some (.string a0_1) := (blk_cell BK159.out 1).trans rfl; have hcz11_2 : w9.cell? ⟨gb159, 2, none⟩ = some (.string a0_2) := (blk_cell BK159.out 2).trans rfl; have hcz11_3 : w9.cell? ⟨gb159, 3, none⟩ = some (.string a0_3) := (blk_cell BK159.out 3).trans rfl; have hcz11_4 : w9.cell? ⟨gb159, 4, none⟩ = some (.slice A0_4 l0_4.length c0_4) := (blk_cell BK159.out 4).trans rfl; have hcz11_5 : w9.cell? ⟨gb159, 5, none⟩ = some (.slice A0_5 l0_5.length c0_5) := (blk_cell BK159.out 5).trans rfl; have hcz11_6 : w9.cell? ⟨gb159, 6, none⟩ = some (.int .i64 a0_6) := (blk_cell BK159.out 6).trans rfl; have hcz11_7 : w9.cell? ⟨gb159, 7, none⟩ = some (.slice A0_7 l0_7.length c0_7) := (blk_cell BK159.out 7).trans rfl; have hcz11_8 : w9.cell? ⟨gb159, 8, none⟩ = some (.slice A0_8 l0_8.length c0_8) := (blk_cell BK159.out 8).trans rfl; have hcz11_9 : w9.cell? ⟨gb159, 9, none⟩ = some (.int .i64 a0_9) := (blk_cell BK159.out 9).trans rfl; have hcz11_10 : w9.cell? ⟨gb159, 10, none⟩ = some (.int .i64 a0_10) := (blk_cell BK159.out 10).trans rfl; have hfz11_0 := blk_frozen BK159.out 0; have hfz11_1 := blk_frozen BK159.out 1; have hfz11_2 := blk_frozen BK159.out 2; have hfz11_3 := blk_frozen BK159.out 3; have hfz11_4 := blk_frozen BK159.out 4; have hfz11_5 := blk_frozen BK159.out 5; have hfz11_6 := blk_frozen BK159.out 6; have hfz11_7 := blk_frozen BK159.out 7; have hfz11_8 := blk_frozen BK159.out 8; have hfz11_9 := blk_frozen BK159.out 9; have hfz11_10 := blk_frozen BK159.out 10; have hcz12_0 : w9.cell? ⟨gb160, 0, none⟩ = some (.string a1_0) := (blk_cell BK160.out 0).trans rfl; have hcz12_1 : w9.cell? ⟨gb160, 1, none⟩ = some (.string a1_1) := (blk_cell BK160.out 1).trans rfl; have hcz12_2 : w9.cell? ⟨gb160, 2, none⟩ = some (.string a1_2) := (blk_cell BK160.out 2).trans rfl; have hcz12_3 : w9.cell? ⟨gb160, 3, none⟩ = some (.string a1_3) := (blk_cell BK160.out 3).trans rfl; have hcz12_4 : w9.cell? ⟨gb160, 4, none⟩ = some (.slice A1_4 l1_4.length c1_4) := (blk_cell BK160.out 4).trans rfl; have hcz12_5 : w9.cell? ⟨gb160, 5, none⟩ = some (.slice A1_5 l1_5.length c1_5) := (blk_cell BK160.out 5).trans rfl; have hcz12_6 : w9.cell? ⟨gb160, 6, none⟩ = some (.int .i64 a1_6) := (blk_cell BK160.out 6).trans rfl; have hcz12_7 : w9.cell? ⟨gb160, 7, none⟩ = some (.slice A1_7 l1_7.length c1_7) := (blk_cell BK160.out 7).trans rfl; have hcz12_8 : w9.cell? ⟨gb160, 8, none⟩ = some (.slice A1_8 l1_8.length c1_8) := (blk_cell BK160.out 8).trans rfl; have hcz12_9 : w9.cell? ⟨gb160, 9, none⟩ = some (.int .i64 a1_9) := (blk_cell BK160.out 9).trans rfl; have hcz12_10 : w9.cell? ⟨gb160, 10, none⟩ = some (.int .i64 a1_10) := (blk_cell BK160.out 10).trans rfl; have hfz12_0 := blk_frozen BK160.out 0; have hfz12_1 := blk_frozen BK160.out 1; have hfz12_2 := blk_frozen BK160.out 2; have hfz12_3 := blk_frozen BK160.out 3; have hfz12_4 := blk_frozen BK160.out 4; have hfz12_5 := blk_frozen BK160.out 5; have hfz12_6 := blk_frozen BK160.out 6; have hfz12_7 := blk_frozen BK160.out 7; have hfz12_8 := blk_frozen BK160.out 8; have hfz12_9 := blk_frozen BK160.out 9; have hfz12_10 := blk_frozen BK160.out 10) | (go_at_call 31; (with_reducible refine (turnbuckleref15_SameRequest.calls k a0_0 a0_1 a0_2 a0_3 _ _ l0_4 _ _ l0_5 a1_0 a1_1 a1_2 a1_3 _ _ l1_4 _ _ l1_5 true _ ?side1 ?side2 ?side3 ?side4 ?side5 ?side6 ?side7 ?side8 A5.out).mono ?_); (case side1 => repeat (first | exact (Kd.C_below HR0_4.out HB.out) | (with_reducible refine Kd.C_alloc ?_ _) | (with_reducible refine Kd.C_drewN ?_ _) | (with_reducible refine Kd.C_drew ?_))); (case side2 => exact HC0_4.out); (case side3 => repeat (first | exact (Kd.C_below HR0_5.out HB.out) | (with_reducible refine Kd.C_alloc ?_ _) | (with_reducible refine Kd.C_drewN ?_ _) | (with_reducible refine Kd.C_drew ?_))); (case side4 => exact HC0_5.out); (case side5 => repeat (first | exact (Kd.C_below HR1_4.out HB.out) | (with_reducible refine Kd.C_alloc ?_ _) | (with_reducible refine Kd.C_drewN ?_ _) | (with_reducible refine Kd.C_drew ?_))); (case side6 => exact HC1_4.out); (case side7 => repeat (first | exact (Kd.C_below HR1_5.out HB.out) | (with_reducible refine Kd.C_alloc ?_ _) | (with_reducible refine Kd.C_drewN ?_ _) | (with_reducible refine Kd.C_drew ?_))); (case side8 => exact HC1_5.out); rintro e w13 ⟨rfl, hb⟩; have n0_ := Aside0.mk (blk_below (g := gb159) (o := .cells #[.string a0_0, .string a0_1, .string a0_2, .string a0_3, .slice A0_4 l0_4.length c0_4, .slice A0_5 l0_5.length c0_5, .int .i64 a0_6, .slice A0_7 l0_7.length c0_7, .slice A0_8 l0_8.length c0_8, .int .i64 a0_9, .int .i64 a0_10] 36 (0, 0)) (by (with_reducible repeat (first | refine blk_drewN ?_ _ | refine blk_drew ?_ | refine blk_alloc ?_ _)); exact BK159.out) hb); have n1_ := Aside0.mk (blk_below (g := gb160) (o := .cells #[.string a1_0, .string a1_1, .string a1_2, .string a1_3, .slice A1_4 l1_4.length c1_4, .slice A1_5 l1_5.length c1_5, .int .i64 a1_6, .slice A1_7 l1_7.length c1_7, .slice A1_8 l1_8.length c1_8, .int .i64 a1_9, .int .i64 a1_10] 36 (0, 0)) (by (with_reducible repeat (first | refine blk_drewN ?_ _ | refine blk_drew ?_ | refine blk_alloc ?_ _)); exact BK160.out) hb); have n2_ := Aside0.mk (below_step (by repeat (first | (with_reducible first | exact HB.out | apply below_alloc | apply pw_below_drewN | apply below_drew1 | refine below_set ?_ GE159.out | refine below_set ?_ GE160.out) | exact HB.out)) hb); clear BK159; clear BK160; clear HB; have BK159 := n0_; have BK160 := n1_; have HB := n2_; clear n0_ n1_ n2_; (try clear hb); (try clear hb2); (try clear hk); (try clear hi); have hcz14_0 : w13.cell? ⟨gb159, 0, none⟩ = some (.string a0_0) := (blk_cell BK159.out 0).trans rfl; have hcz14_1 : w13.cell? ⟨gb159, 1, none⟩ = some (.string a0_1) := (blk_cell BK159.out 1).trans rfl; have hcz14_2 : w13.cell? ⟨gb159, 2, none⟩ = some (.string a0_2) := (blk_cell BK159.out 2).trans rfl; have hcz14_3 : w13.cell? ⟨gb159, 3, none⟩ = some (.string a0_3) := (blk_cell BK159.out 3).trans rfl; have hcz14_4 : w13.cell? ⟨gb159, 4, none⟩ = some (.slice A0_4 l0_4.length c0_4) := (blk_cell BK159.out 4).trans rfl; have hcz14_5 : w13.cell? ⟨gb159, 5, none⟩ = some (.slice A0_5 l0_5.length c0_5) := (blk_cell BK159.out 5).trans rfl; have hcz14_6 : w13.cell? ⟨gb159, 6, none⟩ = some (.int .i64 a0_6) := (blk_cell BK159.out 6).trans rfl; have hcz14_7 : w13.cell? ⟨gb159, 7, none⟩ = some (.slice A0_7 l0_7.length c0_7) := (blk_cell BK159.out 7).trans rfl; have hcz14_8 : w13.cell? ⟨gb159, 8, none⟩ = some (.slice A0_8 l0_8.length c0_8) := (blk_cell BK159.out 8).trans rfl; have hcz14_9 : w13.cell? ⟨gb159, 9, none⟩ = some (.int .i64 a0_9) := (blk_cell BK159.out 9).trans rfl; have hcz14_10 : w13.cell? ⟨gb159, 10, none⟩ = some (.int .i64 a0_10) := (blk_cell BK159.out 10).trans rfl; have hfz14_0 := blk_frozen BK159.out 0; have hfz14_1 := blk_frozen BK159.out 1; have hfz14_2 := blk_frozen BK159.out 2; have hfz14_3 := blk_frozen BK159.out 3; have hfz14_4 := blk_frozen BK159.out 4; have hfz14_5 := blk_frozen BK159.out 5; have hfz14_6 := blk_frozen BK159.out 6; have hfz14_7 := blk_frozen BK159.out 7; have hfz14_8 := blk_frozen BK159.out 8; have hfz14_9 := blk_frozen BK159.out 9; have hfz14_10 := blk_frozen BK159.out 10; have hcz15_0 : w13.cell? ⟨gb160, 0, none⟩ = some (.string a1_0) := (blk_cell BK160.out 0).trans rfl; have hcz15_1 : w13.cell? ⟨gb160, 1, none⟩ = some (.string a1_1) := (blk_cell BK160.out 1).trans rfl; have hcz15_2 : w13.cell? ⟨gb160, 2, none⟩ = some (.string a1_2) := (blk_cell BK160.out 2).trans rfl; have hcz15_3 : w13.cell? ⟨gb160, 3, none⟩ = some (.string a1_3) := (blk_cell BK160.out 3).trans rfl; have hcz15_4 : w13.cell? ⟨gb160, 4, none⟩ = some (.slice A1_4 l1_4.length c1_4) := (blk_cell BK160.out 4).trans rfl; have hcz15_5 : w13.cell? ⟨gb160, 5, none⟩ = some (.slice A1_5 l1_5.length c1_5) := (blk_cell BK160.out 5).trans rfl; have hcz15_6 : w13.cell? ⟨gb160, 6, none⟩ = some (.int .i64 a1_6) := (blk_cell BK160.out 6).trans rfl; have hcz15_7 : w13.cell? ⟨gb160, 7, none⟩ = some (.slice A1_7 l1_7.length c1_7) := (blk_cell BK160.out 7).trans rfl; have hcz15_8 : w13.cell? ⟨gb160, 8, none⟩ = some (.slice A1_8 l1_8.length c1_8) := (blk_cell BK160.out 8).trans rfl; have hcz15_9 : w13.cell? ⟨gb160, 9, none⟩ = some (.int .i64 a1_9) := (blk_cell BK160.out 9).trans rfl; have hcz15_10 : w13.cell? ⟨gb160, 10, none⟩ = some (.int .i64 a1_10) := (blk_cell BK160.out 10).trans rfl; have hfz15_0 := blk_frozen BK160.out 0; have hfz15_1 := blk_frozen BK160.out 1; have hfz15_2 := blk_frozen BK160.out 2; have hfz15_3 := blk_frozen BK160.out 3; have hfz15_4 := blk_frozen BK160.out 4; have hfz15_5 := blk_frozen BK160.out 5; have hfz15_6 := blk_frozen BK160.out 6; have hfz15_7 := blk_frozen BK160.out 7; have hfz15_8 := blk_frozen BK160.out 8; have hfz15_9 := blk_frozen BK160.out 9; have hfz15_10 := blk_frozen BK160.out 10) | (go_at_call 32; (with_reducible refine (turnbuckleref15_SameResponse.calls k a0_6 _ _ l0_7 _ _ l0_8 a1_6 _ _ l1_7 _ _ l1_8 t162 _ ?side1 ?side2 ?side3 ?side4 ?side5 ?side6 ?side7 ?side8 A7.out).mono ?_); (case side1 => repeat (first | exact (Kd.C_below HR0_7.out HB.out) | (with_reducible refine Kd.C_alloc ?_ _) | (with_reducible refine Kd.C_drewN ?_ _) | (with_reducible refine Kd.C_drew ?_))); (case side2 => exact HC0_7.out); (case side3 => repeat (first | exact (Kd.C_below HR0_8.out HB.out) | (with_reducible refine Kd.C_alloc ?_ _) | (with_reducible refine Kd.C_drewN ?_ _) | (with_reducible refine Kd.C_drew ?_))); (case side4 => exact HC0_8.out); (case side5 => repeat (first | exact (Kd.C_below HR1_7.out HB.out) | (with_reducible refine Kd.C_alloc ?_ _) | (with_reducible refine Kd.C_drewN ?_ _) | (with_reducible refine Kd.C_drew ?_))); (case side6 => exact HC1_7.out); (case side7 => repeat (first | exact (Kd.C_below HR1_8.out HB.out) | (with_reducible refine Kd.C_alloc ?_ _) | (with_reducible refine Kd.C_drewN ?_ _) | (with_reducible refine Kd.C_drew ?_))); (case side8 => exact HC1_8.out); rintro e w16 ⟨rfl, hb⟩; have n0_ := Aside0.mk (blk_below (g := gb159) (o := .cells #[.string a0_0, .string a0_1, .string a0_2, .string a0_3, .slice A0_4 l0_4.length c0_4, .slice A0_5 l0_5.length c0_5, .int .i64 a0_6, .slice A0_7 l0_7.length c0_7, .slice A0_8 l0_8.length c0_8, .int .i64 a0_9, .int .i64 a0_10] 36 (0, 0)) (by (with_reducible repeat (first | refine blk_drewN ?_ _ | refine blk_drew ?_ | refine blk_alloc ?_ _)); exact BK159.out) hb); have n1_ := Aside0.mk (blk_below (g := gb160) (o := .cells #[.string a1_0, .string a1_1, .string a1_2, .string a1_3, .slice A1_4 l1_4.length c1_4, .slice A1_5 l1_5.length c1_5, .int .i64 a1_6, .slice A1_7 l1_7.length c1_7, .slice A1_8 l1_8.length c1_8, .int .i64 a1_9, .int .i64 a1_10] 36 (0, 0)) (by (with_reducible repeat (first | refine blk_drewN ?_ _ | refine blk_drew ?_ | refine blk_alloc ?_ _)); exact BK160.out) hb); have n2_ := Aside0.mk (below_step (by repeat (first | (with_reducible first | exact HB.out | apply below_alloc | apply pw_below_drewN | apply below_drew1 | refine below_set ?_ GE159.out | refine below_set ?_ GE160.out) | exact HB.out)) hb); clear BK159; clear BK160; clear HB; have BK159 := n0_; have BK160 := n1_; have HB := n2_; clear n0_ n1_ n2_; (try clear hb); (try clear hb2); (try clear hk); (try clear hi)))
        go_ret
        exact ⟨by first | rfl | (simp [errW_none, errW_some] <;> rfl) | (simp [*, errW_none, errW_some] <;> rfl), by repeat (first | (with_reducible first | exact HB.out | apply below_alloc | apply pw_below_drewN | apply below_drew1 | refine below_set ?_ GE159.out | refine below_set ?_ GE160.out) | exact HB.out)⟩
      · replace c6 := Bool.eq_false_iff.mpr c6
        subst c6
        have H1 : (some false) = some r := by rw [if_neg (show ¬ (false = true) by decide)] at H; exact H
        clear H
        have H := H1
        clear H1
        obtain rfl := Option.some.inj H
        go_enter Tryd.func9, Tryd.ntmps9
        go_wp2_with (first | ((with_reducible refine gate_dst (N := 2) rfl ?_); refine box_event ?hg (N := 2) ?hd (cs := #[.string a0_0, .string a0_1, .string a0_2, .string a0_3, .slice A0_4 l0_4.length c0_4, .slice A0_5 l0_5.length c0_5, .int .i64 a0_6, .slice A0_7 l0_7.length c0_7, .slice A0_8 l0_8.length c0_8, .int .i64 a0_9, .int .i64 a0_10]) (t := 36) ?hr ?_; (case hd => rfl); (case hg => rfl); (case hr => first | (go_simp; done) | (go_simp; rfl)); intro gb159 hg w17 hbox hb; have n0_ := Aside0.mk (below_step (by repeat (first | (with_reducible first | exact HB.out | apply below_alloc | apply pw_below_drewN | apply below_drew1) | exact HB.out)) hb); have n1_ := Aside0.mk (hbox); have n2_ := Aside0.mk ((by rw [hg]; exact (below_size (by repeat (first | (with_reducible first | exact HB.out | apply below_alloc | apply pw_below_drewN | apply below_drew1) | exact HB.out))) : w.heap.size ≤ gb159)); have n3_ := Aside0.mk ((by rw [hg]; exact (below_size (by repeat (first | (with_reducible first | exact HB.out | apply below_alloc | apply pw_below_drewN | apply below_drew1) | exact HB.out))) : w.heap.size ≤ gb159)); clear HB; have HB := n0_; have BK159 := n1_; have GW159 := n2_; have GE159 := n3_; clear n0_ n1_ n2_ n3_; clear hb hbox hg) | ((with_reducible refine gate_dst (N := 3) rfl ?_); refine box_event ?hg (N := 3) ?hd (cs := #[.string a1_0, .string a1_1, .string a1_2, .string a1_3, .slice A1_4 l1_4.length c1_4, .slice A1_5 l1_5.length c1_5, .int .i64 a1_6, .slice A1_7 l1_7.length c1_7, .slice A1_8 l1_8.length c1_8, .int .i64 a1_9, .int .i64 a1_10]) (t := 36) ?hr ?_; (case hd => rfl); (case hg => rfl); (case hr => first | (go_simp; done) | (go_simp; rfl)); intro gb160 hg w18 hbox hb; have n0_ := Aside0.mk (blk_below (g := gb159) (o := .cells #[.string a0_0, .string a0_1, .string a0_2, .string a0_3, .slice A0_4 l0_4.length c0_4, .slice A0_5 l0_5.length c0_5, .int .i64 a0_6, .slice A0_7 l0_7.length c0_7, .slice A0_8 l0_8.length c0_8, .int .i64 a0_9, .int .i64 a0_10] 36 (0, 0)) (by (with_reducible repeat (first | refine blk_drewN ?_ _ | refine blk_drew ?_ | refine blk_alloc ?_ _)); exact BK159.out) hb); have n1_ := Aside0.mk (below_step (by repeat (first | (with_reducible first | exact HB.out | apply below_alloc | apply pw_below_drewN | apply below_drew1 | refine below_set ?_ GE159.out) | exact HB.out)) hb); have n2_ := Aside0.mk (hbox); have n3_ := Aside0.mk ((by rw [hg]; exact (below_size (by repeat (first | (with_reducible first | exact HB.out | apply below_alloc | apply pw_below_drewN | apply below_drew1 | refine below_set ?_ GE159.out) | exact HB.out))) : w.heap.size ≤ gb160)); have n4_ := Aside0.mk ((by rw [hg]; exact (below_size (by repeat (first | (with_reducible first | exact HB.out | apply below_alloc | apply pw_below_drewN | apply below_drew1 | refine below_set ?_ GE159.out) | exact HB.out))) : w.heap.size ≤ gb160)); have n5_ := Aside0.mk ((by rw [hg]; exact Nat.ne_of_lt (blk_lt (g := gb159) (o := .cells #[.string a0_0, .string a0_1, .string a0_2, .string a0_3, .slice A0_4 l0_4.length c0_4, .slice A0_5 l0_5.length c0_5, .int .i64 a0_6, .slice A0_7 l0_7.length c0_7, .slice A0_8 l0_8.length c0_8, .int .i64 a0_9, .int .i64 a0_10] 36 (0, 0)) (by (with_reducible repeat (first | refine blk_drewN ?_ _ | refine blk_drew ?_ | refine blk_alloc ?_ _)); exact BK159.out)) : gb159 ≠ gb160)); have n6_ := Aside0.mk ((by rw [hg]; exact Nat.ne_of_gt (blk_lt (g := gb159) (o := .cells #[.string a0_0, .string a0_1, .string a0_2, .string a0_3, .slice A0_4 l0_4.length c0_4, .slice A0_5 l0_5.length c0_5, .int .i64 a0_6, .slice A0_7 l0_7.length c0_7, .slice A0_8 l0_8.length c0_8, .int .i64 a0_9, .int .i64 a0_10] 36 (0, 0)) (by (with_reducible repeat (first | refine blk_drewN ?_ _ | refine blk_drew ?_ | refine blk_alloc ?_ _)); exact BK159.out)) : gb160 ≠ gb159)); clear BK159; clear HB; have BK159 := n0_; have HB := n1_; have BK160 := n2_; have GW160 := n3_; have GE160 := n4_; have NB159_160 := n5_; have NB160_159 := n6_; clear n0_ n1_ n2_ n3_ n4_ n5_ n6_; clear hb hbox hg; have hnb19 := NB159_160.out; have hnc19 := NB160_159.out; have hcz20_0 : w18.cell? ⟨gb159, 0, none⟩ = some (.string a0_0) := (blk_cell BK159.out 0).trans rfl; have hcz20_1 : w18.cell? ⟨gb159, 1, none⟩ = some (.string a0_1) := (blk_cell BK159.out 1).trans rfl; have hcz20_2 : w18.cell? ⟨gb159, 2, none⟩ = some (.string a0_2) := (blk_cell BK159.out 2).trans rfl; have hcz20_3 : w18.cell? ⟨gb159, 3, none⟩ = some (.string a0_3) := (blk_cell BK159.out 3).trans rfl; have hcz20_4 : w18.cell? ⟨gb159, 4, none⟩ = some (.slice A0_4 l0_4.length c0_4) := (blk_cell BK159.out 4).trans rfl; have hcz20_5 : w18.cell? ⟨gb159, 5, none⟩ = some (.slice A0_5 l0_5.length c0_5) := (blk_cell BK159.out 5).trans rfl; have hcz20_6 : w18.cell? ⟨gb159, 6, none⟩ = some (.int .i64 a0_6) := (blk_cell BK159.out 6).trans rfl; have hcz20_7 : w18.cell? ⟨gb159, 7, none⟩ = some (.slice A0_7 l0_7.length c0_7) := (blk_cell BK159.out 7).trans rfl; have hcz20_8 : w18.cell? ⟨gb159, 8, none⟩ = some (.slice A0_8 l0_8.length c0_8) := (blk_cell BK159.out 8).trans rfl; have hcz20_9 : w18.cell? ⟨gb159, 9, none⟩ = some (.int .i64 a0_9) := (blk_cell BK159.out 9).trans rfl; have hcz20_10 : w18.cell? ⟨gb159, 10, none⟩ = some (.int .i64 a0_10) := (blk_cell BK159.out 10).trans rfl; have hfz20_0 := blk_frozen BK159.out 0; have hfz20_1 := blk_frozen BK159.out 1; have hfz20_2 := blk_frozen BK159.out 2; have hfz20_3 := blk_frozen BK159.out 3; have hfz20_4 := blk_frozen BK159.out 4; have hfz20_5 := blk_frozen BK159.out 5; have hfz20_6 := blk_frozen BK159.out 6; have hfz20_7 := blk_frozen BK159.out 7; have hfz20_8 := blk_frozen BK159.out 8; have hfz20_9 := blk_frozen BK159.out 9; have hfz20_10 := blk_frozen BK159.out 10; have hcz21_0 : w18.cell? ⟨gb160, 0, none⟩ = some (.string a1_0) := (blk_cell BK160.out 0).trans rfl; have hcz21_1 : w18.cell? ⟨gb160, 1, none⟩ = some (.string a1_1) := (blk_cell BK160.out 1).trans rfl; have hcz21_2 : w18.cell? ⟨gb160, 2, none⟩ = some (.string a1_2) := (blk_cell BK160.out 2).trans rfl; have hcz21_3 : w18.cell? ⟨gb160, 3, none⟩ = some (.string a1_3) := (blk_cell BK160.out 3).trans rfl; have hcz21_4 : w18.cell? ⟨gb160, 4, none⟩ = some (.slice A1_4 l1_4.length c1_4) := (blk_cell BK160.out 4).trans rfl; have hcz21_5 : w18.cell? ⟨gb160, 5, none⟩ = some (.slice A1_5 l1_5.length c1_5) := (blk_cell BK160.out 5).trans rfl; have hcz21_6 : w18.cell? ⟨gb160, 6, none⟩ = some (.int .i64 a1_6) := (blk_cell BK160.out 6).trans rfl; have hcz21_7 : w18.cell? ⟨gb160, 7, none⟩ = some (.slice A1_7 l1_7.length c1_7) := (blk_cell BK160.out 7).trans rfl; have hcz21_8 : w18.cell? ⟨gb160, 8, none⟩ = some (.slice A1_8 l1_8.length c1_8) := (blk_cell BK160.out 8).trans rfl; have hcz21_9 : w18.cell? ⟨gb160, 9, none⟩ = some (.int .i64 a1_9) := (blk_cell BK160.out 9).trans rfl; have hcz21_10 : w18.cell? ⟨gb160, 10, none⟩ = some (.int .i64 a1_10) := (blk_cell BK160.out 10).trans rfl; have hfz21_0 := blk_frozen BK160.out 0; have hfz21_1 := blk_frozen BK160.out 1; have hfz21_2 := blk_frozen BK160.out 2; have hfz21_3 := blk_frozen BK160.out 3; have hfz21_4 := blk_frozen BK160.out 4; have hfz21_5 := blk_frozen BK160.out 5; have hfz21_6 := blk_frozen BK160.out 6; have hfz21_7 := blk_frozen BK160.out 7; have hfz21_8 := blk_frozen BK160.out 8; have hfz21_9 := blk_frozen BK160.out 9; have hfz21_10 := blk_frozen BK160.out 10) | (go_at_call 31; (with_reducible refine (turnbuckleref15_SameRequest.calls k a0_0 a0_1 a0_2 a0_3 _ _ l0_4 _ _ l0_5 a1_0 a1_1 a1_2 a1_3 _ _ l1_4 _ _ l1_5 false _ ?side1 ?side2 ?side3 ?side4 ?side5 ?side6 ?side7 ?side8 A5.out).mono ?_); (case side1 => repeat (first | exact (Kd.C_below HR0_4.out HB.out) | (with_reducible refine Kd.C_alloc ?_ _) | (with_reducible refine Kd.C_drewN ?_ _) | (with_reducible refine Kd.C_drew ?_))); (case side2 => exact HC0_4.out); (case side3 => repeat (first | exact (Kd.C_below HR0_5.out HB.out) | (with_reducible refine Kd.C_alloc ?_ _) | (with_reducible refine Kd.C_drewN ?_ _) | (with_reducible refine Kd.C_drew ?_))); (case side4 => exact HC0_5.out); (case side5 => repeat (first | exact (Kd.C_below HR1_4.out HB.out) | (with_reducible refine Kd.C_alloc ?_ _) | (with_reducible refine Kd.C_drewN ?_ _) | (with_reducible refine Kd.C_drew ?_))); (case side6 => exact HC1_4.out); (case side7 => repeat (first | exact (Kd.C_below HR1_5.out HB.out) | (with_reducible refine Kd.C_alloc ?_ _) | (with_reducible refine Kd.C_drewN ?_ _) | (with_reducible refine Kd.C_drew ?_))); (case side8 => exact HC1_5.out); rintro e w22 ⟨rfl, hb⟩; have n0_ := Aside0.mk (blk_below (g := gb159) (o := .cells #[.string a0_0, .string a0_1, .string a0_2, .string a0_3, .slice A0_4 l0_4.length c0_4, .slice A0_5 l0_5.length c0_5, .int .i64 a0_6, .slice A0_7 l0_7.length c0_7, .slice A0_8 l0_8.length c0_8, .int .i64 a0_9, .int .i64 a0_10] 36 (0, 0)) (by (with_reducible repeat (first | refine blk_drewN ?_ _ | refine blk_drew ?_ | refine blk_alloc ?_ _)); exact BK159.out) hb); have n1_ := Aside0.mk (blk_below (g := gb160) (o := .cells #[.string a1_0, .string a1_1, .string a1_2, .string a1_3, .slice A1_4 l1_4.length c1_4, .slice A1_5 l1_5.length c1_5, .int .i64 a1_6, .slice A1_7 l1_7.length c1_7, .slice A1_8 l1_8.length c1_8, .int .i64 a1_9, .int .i64 a1_10] 36 (0, 0)) (by (with_reducible repeat (first | refine blk_drewN ?_ _ | refine blk_drew ?_ | refine blk_alloc ?_ _)); exact BK160.out) hb); have n2_ := Aside0.mk (below_step (by repeat (first | (with_reducible first | exact HB.out | apply below_alloc | apply pw_below_drewN | apply below_drew1 | refine below_set ?_ GE159.out | refine below_set ?_ GE160.out) | exact HB.out)) hb); clear BK159; clear BK160; clear HB; have BK159 := n0_; have BK160 := n1_; have HB := n2_; clear n0_ n1_ n2_; (try clear hb); (try clear hb2); (try clear hk); (try clear hi)))
        go_ret
        exact ⟨by first | rfl | (simp [errW_none, errW_some] <;> rfl) | (simp [*, errW_none, errW_some] <;> rfl), by repeat (first | (with_reducible first | exact HB.out | apply below_alloc | apply pw_below_drewN | apply below_drew1 | refine below_set ?_ GE159.out | refine below_set ?_ GE160.out) | exact HB.out)⟩
    · rw [if_neg c4] at H
      have c4b0 : (a0_10 == a1_10) = false := beq_eq_false_iff_ne.mpr c4
      have c4b1 : (a0_10 != a1_10) = true := bne_iff_ne.mpr c4
      obtain rfl := Option.some.inj H
      go_enter Tryd.func9, Tryd.ntmps9
      go_wp2_with (first | ((with_reducible refine gate_dst (N := 2) rfl ?_); refine box_event ?hg (N := 2) ?hd (cs := #[.string a0_0, .string a0_1, .string a0_2, .string a0_3, .slice A0_4 l0_4.length c0_4, .slice A0_5 l0_5.length c0_5, .int .i64 a0_6, .slice A0_7 l0_7.length c0_7, .slice A0_8 l0_8.length c0_8, .int .i64 a0_9, .int .i64 a0_10]) (t := 36) ?hr ?_; (case hd => rfl); (case hg => rfl); (case hr => first | (go_simp; done) | (go_simp; rfl)); intro gb159 hg w23 hbox hb; have n0_ := Aside0.mk (below_step (by repeat (first | (with_reducible first | exact HB.out | apply below_alloc | apply pw_below_drewN | apply below_drew1) | exact HB.out)) hb); have n1_ := Aside0.mk (hbox); have n2_ := Aside0.mk ((by rw [hg]; exact (below_size (by repeat (first | (with_reducible first | exact HB.out | apply below_alloc | apply pw_below_drewN | apply below_drew1) | exact HB.out))) : w.heap.size ≤ gb159)); have n3_ := Aside0.mk ((by rw [hg]; exact (below_size (by repeat (first | (with_reducible first | exact HB.out | apply below_alloc | apply pw_below_drewN | apply below_drew1) | exact HB.out))) : w.heap.size ≤ gb159)); clear HB; have HB := n0_; have BK159 := n1_; have GW159 := n2_; have GE159 := n3_; clear n0_ n1_ n2_ n3_; clear hb hbox hg) | ((with_reducible refine gate_dst (N := 3) rfl ?_); refine box_event ?hg (N := 3) ?hd (cs := #[.string a1_0, .string a1_1, .string a1_2, .string a1_3, .slice A1_4 l1_4.length c1_4, .slice A1_5 l1_5.length c1_5, .int .i64 a1_6, .slice A1_7 l1_7.length c1_7, .slice A1_8 l1_8.length c1_8, .int .i64 a1_9, .int .i64 a1_10]) (t := 36) ?hr ?_; (case hd => rfl); (case hg => rfl); (case hr => first | (go_simp; done) | (go_simp; rfl)); intro gb160 hg w24 hbox hb; have n0_ := Aside0.mk (blk_below (g := gb159) (o := .cells #[.string a0_0, .string a0_1, .string a0_2, .string a0_3, .slice A0_4 l0_4.length c0_4, .slice A0_5 l0_5.length c0_5, .int .i64 a0_6, .slice A0_7 l0_7.length c0_7, .slice A0_8 l0_8.length c0_8, .int .i64 a0_9, .int .i64 a0_10] 36 (0, 0)) (by (with_reducible repeat (first | refine blk_drewN ?_ _ | refine blk_drew ?_ | refine blk_alloc ?_ _)); exact BK159.out) hb); have n1_ := Aside0.mk (below_step (by repeat (first | (with_reducible first | exact HB.out | apply below_alloc | apply pw_below_drewN | apply below_drew1 | refine below_set ?_ GE159.out) | exact HB.out)) hb); have n2_ := Aside0.mk (hbox); have n3_ := Aside0.mk ((by rw [hg]; exact (below_size (by repeat (first | (with_reducible first | exact HB.out | apply below_alloc | apply pw_below_drewN | apply below_drew1 | refine below_set ?_ GE159.out) | exact HB.out))) : w.heap.size ≤ gb160)); have n4_ := Aside0.mk ((by rw [hg]; exact (below_size (by repeat (first | (with_reducible first | exact HB.out | apply below_alloc | apply pw_below_drewN | apply below_drew1 | refine below_set ?_ GE159.out) | exact HB.out))) : w.heap.size ≤ gb160)); have n5_ := Aside0.mk ((by rw [hg]; exact Nat.ne_of_lt (blk_lt (g := gb159) (o := .cells #[.string a0_0, .string a0_1, .string a0_2, .string a0_3, .slice A0_4 l0_4.length c0_4, .slice A0_5 l0_5.length c0_5, .int .i64 a0_6, .slice A0_7 l0_7.length c0_7, .slice A0_8 l0_8.length c0_8, .int .i64 a0_9, .int .i64 a0_10] 36 (0, 0)) (by (with_reducible repeat (first | refine blk_drewN ?_ _ | refine blk_drew ?_ | refine blk_alloc ?_ _)); exact BK159.out)) : gb159 ≠ gb160)); have n6_ := Aside0.mk ((by rw [hg]; exact Nat.ne_of_gt (blk_lt (g := gb159) (o := .cells #[.string a0_0, .string a0_1, .string a0_2, .string a0_3, .slice A0_4 l0_4.length c0_4, .slice A0_5 l0_5.length c0_5, .int .i64 a0_6, .slice A0_7 l0_7.length c0_7, .slice A0_8 l0_8.length c0_8, .int .i64 a0_9, .int .i64 a0_10] 36 (0, 0)) (by (with_reducible repeat (first | refine blk_drewN ?_ _ | refine blk_drew ?_ | refine blk_alloc ?_ _)); exact BK159.out)) : gb160 ≠ gb159)); clear BK159; clear HB; have BK159 := n0_; have HB := n1_; have BK160 := n2_; have GW160 := n3_; have GE160 := n4_; have NB159_160 := n5_; have NB160_159 := n6_; clear n0_ n1_ n2_ n3_ n4_ n5_ n6_; clear hb hbox hg; have hnb25 := NB159_160.out; have hnc25 := NB160_159.out; have hcz26_0 : w24.cell? ⟨gb159, 0, none⟩ = some (.string a0_0) := (blk_cell BK159.out 0).trans rfl; have hcz26_1 : w24.cell? ⟨gb159, 1, none⟩ = some (.string a0_1) := (blk_cell BK159.out 1).trans rfl; have hcz26_2 : w24.cell? ⟨gb159, 2, none⟩ = some (.string a0_2) := (blk_cell BK159.out 2).trans rfl; have hcz26_3 : w24.cell? ⟨gb159, 3, none⟩ = some (.string a0_3) := (blk_cell BK159.out 3).trans rfl; have hcz26_4 : w24.cell? ⟨gb159, 4, none⟩ = some (.slice A0_4 l0_4.length c0_4) := (blk_cell BK159.out 4).trans rfl; have hcz26_5 : w24.cell? ⟨gb159, 5, none⟩ = some (.slice A0_5 l0_5.length c0_5) := (blk_cell BK159.out 5).trans rfl; have hcz26_6 : w24.cell? ⟨gb159, 6, none⟩ = some (.int .i64 a0_6) := (blk_cell BK159.out 6).trans rfl; have hcz26_7 : w24.cell? ⟨gb159, 7, none⟩ = some (.slice A0_7 l0_7.length c0_7) := (blk_cell BK159.out 7).trans rfl; have hcz26_8 : w24.cell? ⟨gb159, 8, none⟩ = some (.slice A0_8 l0_8.length c0_8) := (blk_cell BK159.out 8).trans rfl; have hcz26_9 : w24.cell? ⟨gb159, 9, none⟩ = some (.int .i64 a0_9) := (blk_cell BK159.out 9).trans rfl; have hcz26_10 : w24.cell? ⟨gb159, 10, none⟩ = some (.int .i64 a0_10) := (blk_cell BK159.out 10).trans rfl; have hfz26_0 := blk_frozen BK159.out 0; have hfz26_1 := blk_frozen BK159.out 1; have hfz26_2 := blk_frozen BK159.out 2; have hfz26_3 := blk_frozen BK159.out 3; have hfz26_4 := blk_frozen BK159.out 4; have hfz26_5 := blk_frozen BK159.out 5; have hfz26_6 := blk_frozen BK159.out 6; have hfz26_7 := blk_frozen BK159.out 7; have hfz26_8 := blk_frozen BK159.out 8; have hfz26_9 := blk_frozen BK159.out 9; have hfz26_10 := blk_frozen BK159.out 10; have hcz27_0 : w24.cell? ⟨gb160, 0, none⟩ = some (.string a1_0) := (blk_cell BK160.out 0).trans rfl; have hcz27_1 : w24.cell? ⟨gb160, 1, none⟩ = some (.string a1_1) := (blk_cell BK160.out 1).trans rfl; have hcz27_2 : w24.cell? ⟨gb160, 2, none⟩ = some (.string a1_2) := (blk_cell BK160.out 2).trans rfl; have hcz27_3 : w24.cell? ⟨gb160, 3, none⟩ = some (.string a1_3) := (blk_cell BK160.out 3).trans rfl; have hcz27_4 : w24.cell? ⟨gb160, 4, none⟩ = some (.slice A1_4 l1_4.length c1_4) := (blk_cell BK160.out 4).trans rfl; have hcz27_5 : w24.cell? ⟨gb160, 5, none⟩ = some (.slice A1_5 l1_5.length c1_5) := (blk_cell BK160.out 5).trans rfl; have hcz27_6 : w24.cell? ⟨gb160, 6, none⟩ = some (.int .i64 a1_6) := (blk_cell BK160.out 6).trans rfl; have hcz27_7 : w24.cell? ⟨gb160, 7, none⟩ = some (.slice A1_7 l1_7.length c1_7) := (blk_cell BK160.out 7).trans rfl; have hcz27_8 : w24.cell? ⟨gb160, 8, none⟩ = some (.slice A1_8 l1_8.length c1_8) := (blk_cell BK160.out 8).trans rfl; have hcz27_9 : w24.cell? ⟨gb160, 9, none⟩ = some (.int .i64 a1_9) := (blk_cell BK160.out 9).trans rfl; have hcz27_10 : w24.cell? ⟨gb160, 10, none⟩ = some (.int .i64 a1_10) := (blk_cell BK160.out 10).trans rfl; have hfz27_0 := blk_frozen BK160.out 0; have hfz27_1 := blk_frozen BK160.out 1; have hfz27_2 := blk_frozen BK160.out 2; have hfz27_3 := blk_frozen BK160.out 3; have hfz27_4 := blk_frozen BK160.out 4; have hfz27_5 := blk_frozen BK160.out 5; have hfz27_6 := blk_frozen BK160.out 6; have hfz27_7 := blk_frozen BK160.out 7; have hfz27_8 := blk_frozen BK160.out 8; have hfz27_9 := blk_frozen BK160.out 9; have hfz27_10 := blk_frozen BK160.out 10))
      go_ret
      exact ⟨by first | rfl | (simp [errW_none, errW_some] <;> rfl) | (simp [*, errW_none, errW_some] <;> rfl), by repeat (first | (with_reducible first | exact HB.out | apply below_alloc | apply pw_below_drewN | apply below_drew1 | refine below_set ?_ GE159.out | refine below_set ?_ GE160.out) | exact HB.out)⟩
  · rw [if_neg c3] at H
    have c3b0 : (a0_9 == a1_9) = false := beq_eq_false_iff_ne.mpr c3
    have c3b1 : (a0_9 != a1_9) = true := bne_iff_ne.mpr c3
    obtain rfl := Option.some.inj H
    go_enter Tryd.func9, Tryd.ntmps9
    go_wp2_with (first | ((with_reducible refine gate_dst (N := 2) rfl ?_); refine box_event ?hg (N := 2) ?hd (cs := #[.string a0_0, .string a0_1, .string a0_2, .string a0_3, .slice A0_4 l0_4.length c0_4, .slice A0_5 l0_5.length c0_5, .int .i64 a0_6, .slice A0_7 l0_7.length c0_7, .slice A0_8 l0_8.length c0_8, .int .i64 a0_9, .int .i64 a0_10]) (t := 36) ?hr ?_; (case hd => rfl); (case hg => rfl); (case hr => first | (go_simp; done) | (go_simp; rfl)); intro gb159 hg w28 hbox hb; have n0_ := Aside0.mk (below_step (by repeat (first | (with_reducible first | exact HB.out | apply below_alloc | apply pw_below_drewN | apply below_drew1) | exact HB.out)) hb); have n1_ := Aside0.mk (hbox); have n2_ := Aside0.mk ((by rw [hg]; exact (below_size (by repeat (first | (with_reducible first | exact HB.out | apply below_alloc | apply pw_below_drewN | apply below_drew1) | exact HB.out))) : w.heap.size ≤ gb159)); have n3_ := Aside0.mk ((by rw [hg]; exact (below_size (by repeat (first | (with_reducible first | exact HB.out | apply below_alloc | apply pw_below_drewN | apply below_drew1) | exact HB.out))) : w.heap.size ≤ gb159)); clear HB; have HB := n0_; have BK159 := n1_; have GW159 := n2_; have GE159 := n3_; clear n0_ n1_ n2_ n3_; clear hb hbox hg) | ((with_reducible refine gate_dst (N := 3) rfl ?_); refine box_event ?hg (N := 3) ?hd (cs := #[.string a1_0, .string a1_1, .string a1_2, .string a1_3, .slice A1_4 l1_4.length c1_4, .slice A1_5 l1_5.length c1_5, .int .i64 a1_6, .slice A1_7 l1_7.length c1_7, .slice A1_8 l1_8.length c1_8, .int .i64 a1_9, .int .i64 a1_10]) (t := 36) ?hr ?_; (case hd => rfl); (case hg => rfl); (case hr => first | (go_simp; done) | (go_simp; rfl)); intro gb160 hg w29 hbox hb; have n0_ := Aside0.mk (blk_below (g := gb159) (o := .cells #[.string a0_0, .string a0_1, .string a0_2, .string a0_3, .slice A0_4 l0_4.length c0_4, .slice A0_5 l0_5.length c0_5, .int .i64 a0_6, .slice A0_7 l0_7.length c0_7, .slice A0_8 l0_8.length c0_8, .int .i64 a0_9, .int .i64 a0_10] 36 (0, 0)) (by (with_reducible repeat (first | refine blk_drewN ?_ _ | refine blk_drew ?_ | refine blk_alloc ?_ _)); exact BK159.out) hb); have n1_ := Aside0.mk (below_step (by repeat (first | (with_reducible first | exact HB.out | apply below_alloc | apply pw_below_drewN | apply below_drew1 | refine below_set ?_ GE159.out) | exact HB.out)) hb); have n2_ := Aside0.mk (hbox); have n3_ := Aside0.mk ((by rw [hg]; exact (below_size (by repeat (first | (with_reducible first | exact HB.out | apply below_alloc | apply pw_below_drewN | apply below_drew1 | refine below_set ?_ GE159.out) | exact HB.out))) : w.heap.size ≤ gb160)); have n4_ := Aside0.mk ((by rw [hg]; exact (below_size (by repeat (first | (with_reducible first | exact HB.out | apply below_alloc | apply pw_below_drewN | apply below_drew1 | refine below_set ?_ GE159.out) | exact HB.out))) : w.heap.size ≤ gb160)); have n5_ := Aside0.mk ((by rw [hg]; exact Nat.ne_of_lt (blk_lt (g := gb159) (o := .cells #[.string a0_0, .string a0_1, .string a0_2, .string a0_3, .slice A0_4 l0_4.length c0_4, .slice A0_5 l0_5.length c0_5, .int .i64 a0_6, .slice A0_7 l0_7.length c0_7, .slice A0_8 l0_8.length c0_8, .int .i64 a0_9, .int .i64 a0_10] 36 (0, 0)) (by (with_reducible repeat (first | refine blk_drewN ?_ _ | refine blk_drew ?_ | refine blk_alloc ?_ _)); exact BK159.out)) : gb159 ≠ gb160)); have n6_ := Aside0.mk ((by rw [hg]; exact Nat.ne_of_gt (blk_lt (g := gb159) (o := .cells #[.string a0_0, .string a0_1, .string a0_2, .string a0_3, .slice A0_4 l0_4.length c0_4, .slice A0_5 l0_5.length c0_5, .int .i64 a0_6, .slice A0_7 l0_7.length c0_7, .slice A0_8 l0_8.length c0_8, .int .i64 a0_9, .int .i64 a0_10] 36 (0, 0)) (by (with_reducible repeat (first | refine blk_drewN ?_ _ | refine blk_drew ?_ | refine blk_alloc ?_ _)); exact BK159.out)) : gb160 ≠ gb159)); clear BK159; clear HB; have BK159 := n0_; have HB := n1_; have BK160 := n2_; have GW160 := n3_; have GE160 := n4_; have NB159_160 := n5_; have NB160_159 := n6_; clear n0_ n1_ n2_ n3_ n4_ n5_ n6_; clear hb hbox hg; have hnb30 := NB159_160.out; have hnc30 := NB160_159.out; have hcz31_0 : w29.cell? ⟨gb159, 0, none⟩ = some (.string a0_0) := (blk_cell BK159.out 0).trans rfl; have hcz31_1 : w29.cell? ⟨gb159, 1, none⟩ = some (.string a0_1) := (blk_cell BK159.out 1).trans rfl; have hcz31_2 : w29.cell? ⟨gb159, 2, none⟩ = some (.string a0_2) := (blk_cell BK159.out 2).trans rfl; have hcz31_3 : w29.cell? ⟨gb159, 3, none⟩ = some (.string a0_3) := (blk_cell BK159.out 3).trans rfl; have hcz31_4 : w29.cell? ⟨gb159, 4, none⟩ = some (.slice A0_4 l0_4.length c0_4) := (blk_cell BK159.out 4).trans rfl; have hcz31_5 : w29.cell? ⟨gb159, 5, none⟩ = some (.slice A0_5 l0_5.length c0_5) := (blk_cell BK159.out 5).trans rfl; have hcz31_6 : w29.cell? ⟨gb159, 6, none⟩ = some (.int .i64 a0_6) := (blk_cell BK159.out 6).trans rfl; have hcz31_7 : w29.cell? ⟨gb159, 7, none⟩ = some (.slice A0_7 l0_7.length c0_7) := (blk_cell BK159.out 7).trans rfl; have hcz31_8 : w29.cell? ⟨gb159, 8, none⟩ = some (.slice A0_8 l0_8.length c0_8) := (blk_cell BK159.out 8).trans rfl; have hcz31_9 : w29.cell? ⟨gb159, 9, none⟩ = some (.int .i64 a0_9) := (blk_cell BK159.out 9).trans rfl; have hcz31_10 : w29.cell? ⟨gb159, 10, none⟩ = some (.int .i64 a0_10) := (blk_cell BK159.out 10).trans rfl; have hfz31_0 := blk_frozen BK159.out 0; have hfz31_1 := blk_frozen BK159.out 1; have hfz31_2 := blk_frozen BK159.out 2; have hfz31_3 := blk_frozen BK159.out 3; have hfz31_4 := blk_frozen BK159.out 4; have hfz31_5 := blk_frozen BK159.out 5; have hfz31_6 := blk_frozen BK159.out 6; have hfz31_7 := blk_frozen BK159.out 7; have hfz31_8 := blk_frozen BK159.out 8; have hfz31_9 := blk_frozen BK159.out 9; have hfz31_10 := blk_frozen BK159.out 10; have hcz32_0 : w29.cell? ⟨gb160, 0, none⟩ = some (.string a1_0) := (blk_cell BK160.out 0).trans rfl; have hcz32_1 : w29.cell? ⟨gb160, 1, none⟩ = some (.string a1_1) := (blk_cell BK160.out 1).trans rfl; have hcz32_2 : w29.cell? ⟨gb160, 2, none⟩ = some (.string a1_2) := (blk_cell BK160.out 2).trans rfl; have hcz32_3 : w29.cell? ⟨gb160, 3, none⟩ = some (.string a1_3) := (blk_cell BK160.out 3).trans rfl; have hcz32_4 : w29.cell? ⟨gb160, 4, none⟩ = some (.slice A1_4 l1_4.length c1_4) := (blk_cell BK160.out 4).trans rfl; have hcz32_5 : w29.cell? ⟨gb160, 5, none⟩ = some (.slice A1_5 l1_5.length c1_5) := (blk_cell BK160.out 5).trans rfl; have hcz32_6 : w29.cell? ⟨gb160, 6, none⟩ = some (.int .i64 a1_6) := (blk_cell BK160.out 6).trans rfl; have hcz32_7 : w29.cell? ⟨gb160, 7, none⟩ = some (.slice A1_7 l1_7.length c1_7) := (blk_cell BK160.out 7).trans rfl; have hcz32_8 : w29.cell? ⟨gb160, 8, none⟩ = some (.slice A1_8 l1_8.length c1_8) := (blk_cell BK160.out 8).trans rfl; have hcz32_9 : w29.cell? ⟨gb160, 9, none⟩ = some (.int .i64 a1_9) := (blk_cell BK160.out 9).trans rfl; have hcz32_10 : w29.cell? ⟨gb160, 10, none⟩ = some (.int .i64 a1_10) := (blk_cell BK160.out 10).trans rfl; have hfz32_0 := blk_frozen BK160.out 0; have hfz32_1 := blk_frozen BK160.out 1; have hfz32_2 := blk_frozen BK160.out 2; have hfz32_3 := blk_frozen BK160.out 3; have hfz32_4 := blk_frozen BK160.out 4; have hfz32_5 := blk_frozen BK160.out 5; have hfz32_6 := blk_frozen BK160.out 6; have hfz32_7 := blk_frozen BK160.out 7; have hfz32_8 := blk_frozen BK160.out 8; have hfz32_9 := blk_frozen BK160.out 9; have hfz32_10 := blk_frozen BK160.out 10))
    go_ret
    exact ⟨by first | rfl | (simp [errW_none, errW_some] <;> rfl) | (simp [*, errW_none, errW_some] <;> rfl), by repeat (first | (with_reducible first | exact HB.out | apply below_alloc | apply pw_below_drewN | apply below_drew1 | refine below_set ?_ GE159.out | refine below_set ?_ GE160.out) | exact HB.out)⟩

end Go.Proofs.YtbedkjmdckgbgaaDoor.P
-- printed by xprint.py (the kit's print with hand-made contracts beside it). Not trusted: Lean checks it.
namespace Go.Proofs.YtbedkjmdckgbgaaDoor.P
open Go.RowKit Go.Proofs.YtbedkjmdckgbgaaDoorW.PrintWords Go.Proofs.YtbedkjmdckgbgaaDoorW.PrintLast Go.Proofs.YtbedkjmdckgbgaaDoorW.PrintMore
attribute [local go_sem] max2_int min2_int max_two min_two max_three min_three max_four min_four   -- for this text's walks alone
set_option linter.unusedVariables false
set_option linter.unusedSimpArgs false

/-! ### store_Size: function 24 -/
def store_Size.f (k : Nat) (a0_0 : ByteArray) (a0_1 : ByteArray) (a0_2 : ByteArray) (a0_3 : ByteArray) (l0_4 : List (S63)) (l0_5 : List Int) (a0_6 : Int) (l0_7 : List (S63)) (l0_8 : List Int) (a0_9 : Int) (a0_10 : Int) : Option (Int) := (store_weigh.f k l0_4).bind fun t144 => ((store_weigh.f k l0_7).bind fun t145 => (some (wrap64 ((wrap64 ((wrap64 ((wrap64 ((wrap64 ((wrap64 (64 + (a0_1.size : Int))) + (a0_2.size : Int))) + (a0_3.size : Int))) + (l0_8.length : Int))) + t144)) + t145))))
theorem store_Size.mono : ∀ a0 a1 a2 a3 a4 a5 a6 a7 a8 a9 a10 k, LeO (store_Size.f k a0 a1 a2 a3 a4 a5 a6 a7 a8 a9 a10) (store_Size.f (k + 1) a0 a1 a2 a3 a4 a5 a6 a7 a8 a9 a10) := by
  intro a0 a1 a2 a3 a4 a5 a6 a7 a8 a9 a10 k
  unfold store_Size.f
  repeat' first
      | (with_reducible exact store_weigh.mono _ _)
      | (with_reducible exact LeO.refl _)
      | (with_reducible exact LeO.none _)
      | (with_reducible refine LeO.ite ?_ ?_)
      | (with_reducible refine LeO.bind ?_ (fun _ => ?_))
      | exact store_weigh.mono _ _
      | exact LeO.none _
      | refine LeO.ite ?_ ?_
      | refine LeO.bind ?_ (fun _ => ?_)
def store_Size.T1 : Bool × List (List Nat × List Nat) := (true, [([], []), ([0], [0]), ([1], [1]), ([2], [2]), ([3], [3]), ([], []), ([5], [5]), ([6], [6]), ([7], [7]), ([4, 8], [4, 8]), ([], []), ([10], [10]), ([11], [11]), ([12], [12]), ([9, 13], [9, 13]), ([], []), ([15], [15]), ([16], [16]), ([17], [17]), ([14, 18], [14, 18]), ([], []), ([20], [20]), ([21], [21]), ([22], [22]), ([19, 23], [19, 23]), ([], []), ([25], [25]), ([26], [26]), ([27, 23], [27]), ([24, 28], [24, 28]), ([29, 28, 0, 1, 2, 3, 4, 5, 6, 7, 8, 9, 10, 11, 12, 13, 14, 15, 16, 17, 18, 19, 20, 21, 22, 23, 24, 25, 26, 27, 28, 29], [29])])
def store_Size.B1 : List Nat := [0, 1, 3, 7, 15, 0, 32, 96, 224, 511, 0, 1024, 3072, 7168, 16383, 0, 32768, 98304, 229376, 524287, 0, 1048576, 3145728, 7340032, 16777215, 0, 33554432, 100663296, 250609664, 536870911, 1073741823]
theorem store_Size.tab1 : rtab .any (opsOf Tryd.f24 1) = store_Size.T1 := by kernel_rfl
theorem store_Size.bits1 : waitsOk store_Size.T1.2 store_Size.B1 = true := by kernel_rfl
set_option maxHeartbeats 8000000 in
set_option maxRecDepth 100000 in
theorem store_Size.calls (k : Nat) (a0_0 : ByteArray) (a0_1 : ByteArray) (a0_2 : ByteArray) (a0_3 : ByteArray) (A0_4 : Option Addr) (c0_4 : Nat) (l0_4 : List (S63)) (A0_5 : Option Addr) (c0_5 : Nat) (l0_5 : List Int) (a0_6 : Int) (A0_7 : Option Addr) (c0_7 : Nat) (l0_7 : List (S63)) (A0_8 : Option Addr) (c0_8 : Nat) (l0_8 : List Int) (a0_9 : Int) (a0_10 : Int) (r : Int) (w : World) (hr0_4 : Kd.C k63 w A0_4 l0_4.length l0_4) (hc0_4 : l0_4.length ≤ c0_4) (hr0_5 : Kd.C (Kd.int .u8) w A0_5 l0_5.length l0_5) (hc0_5 : l0_5.length ≤ c0_5) (hr0_7 : Kd.C k63 w A0_7 l0_7.length l0_7) (hc0_7 : l0_7.length ≤ c0_7) (hr0_8 : Kd.C (Kd.int .u8) w A0_8 l0_8.length l0_8) (hc0_8 : l0_8.length ≤ c0_8) (h : store_Size.f k a0_0 a0_1 a0_2 a0_3 l0_4 l0_5 a0_6 l0_7 l0_8 a0_9 a0_10 = some r) :
    Calls Tryd.prog 24 #[.agg #[.string a0_0, .string a0_1, .string a0_2, .string a0_3, .slice A0_4 l0_4.length c0_4, .slice A0_5 l0_5.length c0_5, .int .i64 a0_6, .slice A0_7 l0_7.length c0_7, .slice A0_8 l0_8.length c0_8, .int .i64 a0_9, .int .i64 a0_10]] w fun e w' => e = .returned (.int .i64 r) ∧ Below w.heap.size w w' := by
  have hu39 := Tryd.underlying39
  have HR0_4 := Aside0.mk hr0_4
  have HC0_4 := Aside0.mk hc0_4
  clear hr0_4 hc0_4
  have HR0_5 := Aside0.mk hr0_5
  have HC0_5 := Aside0.mk hc0_5
  clear hr0_5 hc0_5
  have HR0_7 := Aside0.mk hr0_7
  have HC0_7 := Aside0.mk hc0_7
  clear hr0_7 hc0_7
  have HR0_8 := Aside0.mk hr0_8
  have HC0_8 := Aside0.mk hc0_8
  clear hr0_8 hc0_8
  have HB := Aside0.mk (Below.refl w.heap.size w)
  have H : ((store_weigh.f k l0_4).bind fun t144 => ((store_weigh.f k l0_7).bind fun t145 => (some (wrap64 ((wrap64 ((wrap64 ((wrap64 ((wrap64 ((wrap64 (64 + (a0_1.size : Int))) + (a0_2.size : Int))) + (a0_3.size : Int))) + (l0_8.length : Int))) + t144)) + t145))))) = some r := h
  clear h
  replace H := Option.bind_eq_some_iff.mp H
  obtain ⟨t144, A20, H⟩ := H
  replace H : ((store_weigh.f k l0_7).bind fun t145 => (some (wrap64 ((wrap64 ((wrap64 ((wrap64 ((wrap64 ((wrap64 (64 + (a0_1.size : Int))) + (a0_2.size : Int))) + (a0_3.size : Int))) + (l0_8.length : Int))) + t144)) + t145)))) = some r := H
  have A2 := Aside0.mk A20
  clear A20
  replace H := Option.bind_eq_some_iff.mp H
  obtain ⟨t145, A30, H⟩ := H
  replace H : (some (wrap64 ((wrap64 ((wrap64 ((wrap64 ((wrap64 ((wrap64 (64 + (a0_1.size : Int))) + (a0_2.size : Int))) + (a0_3.size : Int))) + (l0_8.length : Int))) + t144)) + t145))) = some r := H
  have A3 := Aside0.mk A30
  clear A30
  obtain rfl := Option.some.inj H
  go_enter Tryd.func24, Tryd.ntmps24
  try go_wp2_with (first | ((with_reducible refine gate_dst (N := 1) rfl ?_); refine box_event ?hg (N := 1) ?hd (cs := #[.string a0_0, .string a0_1, .string a0_2, .string a0_3, .slice A0_4 l0_4.length c0_4, .slice A0_5 l0_5.length c0_5, .int .i64 a0_6, .slice A0_7 l0_7.length c0_7, .slice A0_8 l0_8.length c0_8, .int .i64 a0_9, .int .i64 a0_10]) (t := 39) ?hr ?_; (case hd => rfl); (case hg => rfl); (case hr => first | (go_simp; done) | (go_simp; rfl)); intro gb143 hg w4 hbox hb; have n0_ := Aside0.mk (below_step (by repeat (first | (with_reducible first | exact HB.out | apply below_alloc | apply pw_below_drewN | apply below_drew1) | exact HB.out)) hb); have n1_ := Aside0.mk (hbox); have n2_ := Aside0.mk ((by rw [hg]; exact (below_size (by repeat (first | (with_reducible first | exact HB.out | apply below_alloc | apply pw_below_drewN | apply below_drew1) | exact HB.out))) : w.heap.size ≤ gb143)); have n3_ := Aside0.mk ((by rw [hg]; exact (below_size (by repeat (first | (with_reducible first | exact HB.out | apply below_alloc | apply pw_below_drewN | apply below_drew1) | exact HB.out))) : w.heap.size ≤ gb143)); clear HB; have HB := n0_; have BK143 := n1_; have GW143 := n2_; have GE143 := n3_; clear n0_ n1_ n2_ n3_; clear hb hbox hg))
  have n0_ := Aside0.mk (blk_drew BK143.out)
  have n1_ := Aside0.mk (below_drew1 HB.out)
  clear BK143
  clear HB
  have BK143 := n0_
  have HB := n1_
  clear n0_ n1_
  refine start_ (n := 31) (S := fun w' => w'.cell? ⟨gb143, 0, none⟩ = some (.string a0_0) ∧ w'.cell? ⟨gb143, 1, none⟩ = some (.string a0_1) ∧ w'.cell? ⟨gb143, 2, none⟩ = some (.string a0_2) ∧ w'.cell? ⟨gb143, 3, none⟩ = some (.string a0_3) ∧ w'.cell? ⟨gb143, 4, none⟩ = some (.slice A0_4 l0_4.length c0_4) ∧ w'.cell? ⟨gb143, 5, none⟩ = some (.slice A0_5 l0_5.length c0_5) ∧ w'.cell? ⟨gb143, 6, none⟩ = some (.int .i64 a0_6) ∧ w'.cell? ⟨gb143, 7, none⟩ = some (.slice A0_7 l0_7.length c0_7) ∧ w'.cell? ⟨gb143, 8, none⟩ = some (.slice A0_8 l0_8.length c0_8) ∧ w'.cell? ⟨gb143, 9, none⟩ = some (.int .i64 a0_9) ∧ w'.cell? ⟨gb143, 10, none⟩ = some (.int .i64 a0_10)) (ds := []) #[false, false, false, false, false, false, false, false, false, false, false, false, false, false, false, false, false, false, false, false, false, false, false, false, false, false, false, false, false, false, false] (by kernel_rfl) rfl rfl ⟨(blk_cell BK143.out 0).trans rfl, (blk_cell BK143.out 1).trans rfl, (blk_cell BK143.out 2).trans rfl, (blk_cell BK143.out 3).trans rfl, (blk_cell BK143.out 4).trans rfl, (blk_cell BK143.out 5).trans rfl, (blk_cell BK143.out 6).trans rfl, (blk_cell BK143.out 7).trans rfl, (blk_cell BK143.out 8).trans rfl, (blk_cell BK143.out 9).trans rfl, (blk_cell BK143.out 10).trans rfl⟩ (fun hHeld => ?_); refine with_tabW store_Size.tab1 store_Size.bits1 (fun HT_ HW_ => ?_)
  generalize w4.drew = w5 at BK143 HB hHeld ⊢
  refine pure_ (i := 0) (N := some 3) (v := ?_) (a' := ?_) #[true, false, false, false, false, false, false, false, false, false, false, false, false, false, false, false, false, false, false, false, false, false, false, false, false, false, false, false, false, false, false] rfl rfl (any_of HT_.out (by kernel_rfl)) (fun _ _ _ h => h) (Or.inl ⟨by rfl, ?_⟩) ?_ ?_
  rotate_left
  · intro w'
    go_simp
    with_reducible rfl
  rotate_left
  · simp only [Act.put, List.setIfInBounds_toArray, List.set_cons_zero, List.set_cons_succ, i64_w, i32_w]
    rfl
  refine pure_ (i := 1) (N := some 4) (v := ?_) (a' := ?_) #[true, true, false, false, false, false, false, false, false, false, false, false, false, false, false, false, false, false, false, false, false, false, false, false, false, false, false, false, false, false, false] rfl rfl (any_of HT_.out (by kernel_rfl)) (fun _ _ _ h => h) (Or.inl ⟨by rfl, ?_⟩) ?_ ?_
  rotate_left
  · intro w'
    go_simp
    with_reducible rfl
  rotate_left
  · simp only [Act.put, List.setIfInBounds_toArray, List.set_cons_zero, List.set_cons_succ, i64_w, i32_w]
    rfl
  refine pure_ (i := 5) (N := some 8) (v := ?_) (a' := ?_) #[true, true, false, false, false, true, false, false, false, false, false, false, false, false, false, false, false, false, false, false, false, false, false, false, false, false, false, false, false, false, false] rfl rfl (any_of HT_.out (by kernel_rfl)) (fun _ _ _ h => h) (Or.inl ⟨by rfl, ?_⟩) ?_ ?_
  rotate_left
  · intro w'
    go_simp
    with_reducible rfl
  rotate_left
  · simp only [Act.put, List.setIfInBounds_toArray, List.set_cons_zero, List.set_cons_succ, i64_w, i32_w]
    rfl
  refine pure_ (i := 6) (N := some 9) (v := ?_) (a' := ?_) #[true, true, false, false, false, true, true, false, false, false, false, false, false, false, false, false, false, false, false, false, false, false, false, false, false, false, false, false, false, false, false] rfl rfl (any_of HT_.out (by kernel_rfl)) (fun _ _ _ h => h) (Or.inl ⟨by rfl, ?_⟩) ?_ ?_
  rotate_left
  · intro w'
    go_simp
    with_reducible rfl
  rotate_left
  · simp only [Act.put, List.setIfInBounds_toArray, List.set_cons_zero, List.set_cons_succ, i64_w, i32_w]
    rfl
  refine pure_ (i := 10) (N := some 13) (v := ?_) (a' := ?_) #[true, true, false, false, false, true, true, false, false, false, true, false, false, false, false, false, false, false, false, false, false, false, false, false, false, false, false, false, false, false, false] rfl rfl (any_of HT_.out (by kernel_rfl)) (fun _ _ _ h => h) (Or.inl ⟨by rfl, ?_⟩) ?_ ?_
  rotate_left
  · intro w'
    go_simp
    with_reducible rfl
  rotate_left
  · simp only [Act.put, List.setIfInBounds_toArray, List.set_cons_zero, List.set_cons_succ, i64_w, i32_w]
    rfl
  refine pure_ (i := 11) (N := some 14) (v := ?_) (a' := ?_) #[true, true, false, false, false, true, true, false, false, false, true, true, false, false, false, false, false, false, false, false, false, false, false, false, false, false, false, false, false, false, false] rfl rfl (any_of HT_.out (by kernel_rfl)) (fun _ _ _ h => h) (Or.inl ⟨by rfl, ?_⟩) ?_ ?_
  rotate_left
  · intro w'
    go_simp
    with_reducible rfl
  rotate_left
  · simp only [Act.put, List.setIfInBounds_toArray, List.set_cons_zero, List.set_cons_succ, i64_w, i32_w]
    rfl
  refine pure_ (i := 15) (N := some 18) (v := ?_) (a' := ?_) #[true, true, false, false, false, true, true, false, false, false, true, true, false, false, false, true, false, false, false, false, false, false, false, false, false, false, false, false, false, false, false] rfl rfl (any_of HT_.out (by kernel_rfl)) (fun _ _ _ h => h) (Or.inl ⟨by rfl, ?_⟩) ?_ ?_
  rotate_left
  · intro w'
    go_simp
    with_reducible rfl
  rotate_left
  · simp only [Act.put, List.setIfInBounds_toArray, List.set_cons_zero, List.set_cons_succ, i64_w, i32_w]
    rfl
  refine pure_ (i := 16) (N := some 19) (v := ?_) (a' := ?_) #[true, true, false, false, false, true, true, false, false, false, true, true, false, false, false, true, true, false, false, false, false, false, false, false, false, false, false, false, false, false, false] rfl rfl (any_of HT_.out (by kernel_rfl)) (fun _ _ _ h => h) (Or.inl ⟨by rfl, ?_⟩) ?_ ?_
  rotate_left
  · intro w'
    go_simp
    with_reducible rfl
  rotate_left
  · simp only [Act.put, List.setIfInBounds_toArray, List.set_cons_zero, List.set_cons_succ, i64_w, i32_w]
    rfl
  refine pure_ (i := 20) (N := some 23) (v := ?_) (a' := ?_) #[true, true, false, false, false, true, true, false, false, false, true, true, false, false, false, true, true, false, false, false, true, false, false, false, false, false, false, false, false, false, false] rfl rfl (any_of HT_.out (by kernel_rfl)) (fun _ _ _ h => h) (Or.inl ⟨by rfl, ?_⟩) ?_ ?_
  rotate_left
  · intro w'
    go_simp
    with_reducible rfl
  rotate_left
  · simp only [Act.put, List.setIfInBounds_toArray, List.set_cons_zero, List.set_cons_succ, i64_w, i32_w]
    rfl
  refine pure_ (i := 21) (N := some 24) (v := ?_) (a' := ?_) #[true, true, false, false, false, true, true, false, false, false, true, true, false, false, false, true, true, false, false, false, true, true, false, false, false, false, false, false, false, false, false] rfl rfl (any_of HT_.out (by kernel_rfl)) (fun _ _ _ h => h) (Or.inl ⟨by rfl, ?_⟩) ?_ ?_
  rotate_left
  · intro w'
    go_simp
    with_reducible rfl
  rotate_left
  · simp only [Act.put, List.setIfInBounds_toArray, List.set_cons_zero, List.set_cons_succ, i64_w, i32_w]
    rfl
  refine pure_ (i := 25) (N := some 28) (v := ?_) (a' := ?_) #[true, true, false, false, false, true, true, false, false, false, true, true, false, false, false, true, true, false, false, false, true, true, false, false, false, true, false, false, false, false, false] rfl rfl (any_of HT_.out (by kernel_rfl)) (fun _ _ _ h => h) (Or.inl ⟨by rfl, ?_⟩) ?_ ?_
  rotate_left
  · intro w'
    go_simp
    with_reducible rfl
  rotate_left
  · simp only [Act.put, List.setIfInBounds_toArray, List.set_cons_zero, List.set_cons_succ, i64_w, i32_w]
    rfl
  refine pure_ (i := 26) (N := some 29) (v := ?_) (a' := ?_) #[true, true, false, false, false, true, true, false, false, false, true, true, false, false, false, true, true, false, false, false, true, true, false, false, false, true, true, false, false, false, false] rfl rfl (any_of HT_.out (by kernel_rfl)) (fun _ _ _ h => h) (Or.inl ⟨by rfl, ?_⟩) ?_ ?_
  rotate_left
  · intro w'
    go_simp
    with_reducible rfl
  rotate_left
  · simp only [Act.put, List.setIfInBounds_toArray, List.set_cons_zero, List.set_cons_succ, i64_w, i32_w]
    rfl
  refine take_ (i := 2) (N := some 5) (v := ?_) (a' := ?_) #[true, true, true, false, false, true, true, false, false, false, true, true, false, false, false, true, true, false, false, false, true, true, false, false, false, true, true, false, false, false, false] rfl rfl (take_ofW HT_.out HW_.out (by kernel_rfl)) (fun _ _ _ h => h) (Or.inl ⟨by rfl, ?_⟩) hHeld ?_ ?_
  rotate_left
  · rintro w' ⟨s0, s1, s2, s3, s4, s5, s6, s7, s8, s9, s10⟩
    go_simp
    with_reducible rfl
  rotate_left
  · simp only [Act.put, List.setIfInBounds_toArray, List.set_cons_zero, List.set_cons_succ, i64_w, i32_w]
    rfl
  refine pure_ (i := 3) (N := some 6) (v := ?_) (a' := ?_) #[true, true, true, true, false, true, true, false, false, false, true, true, false, false, false, true, true, false, false, false, true, true, false, false, false, true, true, false, false, false, false] rfl rfl (any_of HT_.out (by kernel_rfl)) (fun _ _ _ h => h) (Or.inl ⟨by rfl, ?_⟩) ?_ ?_
  rotate_left
  · intro w'
    go_simp
    with_reducible rfl
  rotate_left
  · simp only [Act.put, List.setIfInBounds_toArray, List.set_cons_zero, List.set_cons_succ, i64_w, i32_w]
    rfl
  refine pure_ (i := 4) (N := some 7) (v := ?_) (a' := ?_) #[true, true, true, true, true, true, true, false, false, false, true, true, false, false, false, true, true, false, false, false, true, true, false, false, false, true, true, false, false, false, false] rfl rfl (any_of HT_.out (by kernel_rfl)) (fun _ _ _ h => h) (Or.inl ⟨by rfl, ?_⟩) ?_ ?_
  rotate_left
  · intro w'
    go_simp
    with_reducible rfl
  rotate_left
  · simp only [Act.put, List.setIfInBounds_toArray, List.set_cons_zero, List.set_cons_succ, i64_w, i32_w]
    rfl
  refine take_ (i := 7) (N := some 10) (v := ?_) (a' := ?_) #[true, true, true, true, true, true, true, true, false, false, true, true, false, false, false, true, true, false, false, false, true, true, false, false, false, true, true, false, false, false, false] rfl rfl (take_ofW HT_.out HW_.out (by kernel_rfl)) (fun _ _ _ h => h) (Or.inl ⟨by rfl, ?_⟩) hHeld ?_ ?_
  rotate_left
  · rintro w' ⟨s0, s1, s2, s3, s4, s5, s6, s7, s8, s9, s10⟩
    go_simp
    with_reducible rfl
  rotate_left
  · simp only [Act.put, List.setIfInBounds_toArray, List.set_cons_zero, List.set_cons_succ, i64_w, i32_w]
    rfl
  refine pure_ (i := 8) (N := some 11) (v := ?_) (a' := ?_) #[true, true, true, true, true, true, true, true, true, false, true, true, false, false, false, true, true, false, false, false, true, true, false, false, false, true, true, false, false, false, false] rfl rfl (any_of HT_.out (by kernel_rfl)) (fun _ _ _ h => h) (Or.inl ⟨by rfl, ?_⟩) ?_ ?_
  rotate_left
  · intro w'
    go_simp
    with_reducible rfl
  rotate_left
  · simp only [Act.put, List.setIfInBounds_toArray, List.set_cons_zero, List.set_cons_succ, i64_w, i32_w]
    rfl
  refine pure_ (i := 9) (N := some 12) (v := ?_) (a' := ?_) #[true, true, true, true, true, true, true, true, true, true, true, true, false, false, false, true, true, false, false, false, true, true, false, false, false, true, true, false, false, false, false] rfl rfl (any_of HT_.out (by kernel_rfl)) (fun _ _ _ h => h) (Or.inl ⟨by rfl, ?_⟩) ?_ ?_
  rotate_left
  · intro w'
    go_simp
    with_reducible rfl
  rotate_left
  · simp only [Act.put, List.setIfInBounds_toArray, List.set_cons_zero, List.set_cons_succ, i64_w, i32_w]
    rfl
  refine take_ (i := 12) (N := some 15) (v := ?_) (a' := ?_) #[true, true, true, true, true, true, true, true, true, true, true, true, true, false, false, true, true, false, false, false, true, true, false, false, false, true, true, false, false, false, false] rfl rfl (take_ofW HT_.out HW_.out (by kernel_rfl)) (fun _ _ _ h => h) (Or.inl ⟨by rfl, ?_⟩) hHeld ?_ ?_
  rotate_left
  · rintro w' ⟨s0, s1, s2, s3, s4, s5, s6, s7, s8, s9, s10⟩
    go_simp
    with_reducible rfl
  rotate_left
  · simp only [Act.put, List.setIfInBounds_toArray, List.set_cons_zero, List.set_cons_succ, i64_w, i32_w]
    rfl
  refine pure_ (i := 13) (N := some 16) (v := ?_) (a' := ?_) #[true, true, true, true, true, true, true, true, true, true, true, true, true, true, false, true, true, false, false, false, true, true, false, false, false, true, true, false, false, false, false] rfl rfl (any_of HT_.out (by kernel_rfl)) (fun _ _ _ h => h) (Or.inl ⟨by rfl, ?_⟩) ?_ ?_
  rotate_left
  · intro w'
    go_simp
    with_reducible rfl
  rotate_left
  · simp only [Act.put, List.setIfInBounds_toArray, List.set_cons_zero, List.set_cons_succ, i64_w, i32_w]
    rfl
  refine pure_ (i := 14) (N := some 17) (v := ?_) (a' := ?_) #[true, true, true, true, true, true, true, true, true, true, true, true, true, true, true, true, true, false, false, false, true, true, false, false, false, true, true, false, false, false, false] rfl rfl (any_of HT_.out (by kernel_rfl)) (fun _ _ _ h => h) (Or.inl ⟨by rfl, ?_⟩) ?_ ?_
  rotate_left
  · intro w'
    go_simp
    with_reducible rfl
  rotate_left
  · simp only [Act.put, List.setIfInBounds_toArray, List.set_cons_zero, List.set_cons_succ, i64_w, i32_w]
    rfl
  refine take_ (i := 17) (N := some 20) (v := ?_) (a' := ?_) #[true, true, true, true, true, true, true, true, true, true, true, true, true, true, true, true, true, true, false, false, true, true, false, false, false, true, true, false, false, false, false] rfl rfl (take_ofW HT_.out HW_.out (by kernel_rfl)) (fun _ _ _ h => h) (Or.inl ⟨by rfl, ?_⟩) hHeld ?_ ?_
  rotate_left
  · rintro w' ⟨s0, s1, s2, s3, s4, s5, s6, s7, s8, s9, s10⟩
    go_simp
    with_reducible rfl
  rotate_left
  · simp only [Act.put, List.setIfInBounds_toArray, List.set_cons_zero, List.set_cons_succ, i64_w, i32_w]
    rfl
  refine pure_ (i := 18) (N := some 21) (v := ?_) (a' := ?_) #[true, true, true, true, true, true, true, true, true, true, true, true, true, true, true, true, true, true, true, false, true, true, false, false, false, true, true, false, false, false, false] rfl rfl (any_of HT_.out (by kernel_rfl)) (fun _ _ _ h => h) (Or.inl ⟨by rfl, ?_⟩) ?_ ?_
  rotate_left
  · intro w'
    go_simp
    with_reducible rfl
  rotate_left
  · simp only [Act.put, List.setIfInBounds_toArray, List.set_cons_zero, List.set_cons_succ, i64_w, i32_w]
    rfl
  refine pure_ (i := 19) (N := some 22) (v := ?_) (a' := ?_) #[true, true, true, true, true, true, true, true, true, true, true, true, true, true, true, true, true, true, true, true, true, true, false, false, false, true, true, false, false, false, false] rfl rfl (any_of HT_.out (by kernel_rfl)) (fun _ _ _ h => h) (Or.inl ⟨by rfl, ?_⟩) ?_ ?_
  rotate_left
  · intro w'
    go_simp
    with_reducible rfl
  rotate_left
  · simp only [Act.put, List.setIfInBounds_toArray, List.set_cons_zero, List.set_cons_succ, i64_w, i32_w]
    rfl
  refine take_ (i := 22) (N := some 25) (v := ?_) (a' := ?_) #[true, true, true, true, true, true, true, true, true, true, true, true, true, true, true, true, true, true, true, true, true, true, true, false, false, true, true, false, false, false, false] rfl rfl (take_ofW HT_.out HW_.out (by kernel_rfl)) (fun _ _ _ h => h) (Or.inl ⟨by rfl, ?_⟩) hHeld ?_ ?_
  rotate_left
  · rintro w' ⟨s0, s1, s2, s3, s4, s5, s6, s7, s8, s9, s10⟩
    go_simp
    with_reducible rfl
  rotate_left
  · simp only [Act.put, List.setIfInBounds_toArray, List.set_cons_zero, List.set_cons_succ, i64_w, i32_w]
    rfl
  refine take_ (i := 27) (N := some 30) (v := ?_) (a' := ?_) #[true, true, true, true, true, true, true, true, true, true, true, true, true, true, true, true, true, true, true, true, true, true, true, false, false, true, true, true, false, false, false] rfl rfl (take_ofW HT_.out HW_.out (by kernel_rfl)) (fun _ _ _ h => h) (Or.inl ⟨by rfl, ?_⟩) hHeld ?_ ?_
  rotate_left
  · rintro w' ⟨s0, s1, s2, s3, s4, s5, s6, s7, s8, s9, s10⟩
    go_simp
    with_reducible rfl
  rotate_left
  · simp only [Act.put, List.setIfInBounds_toArray, List.set_cons_zero, List.set_cons_succ, i64_w, i32_w]
    rfl
  refine one_ (i := 23) (N := some 26) #[true, true, true, true, true, true, true, true, true, true, true, true, true, true, true, true, true, true, true, true, true, true, true, true, false, true, true, true, false, false, false] rfl rfl (one_of HT_.out (by kernel_rfl)) (by decide) (fun K hK => ?_)
  refine goes_ Tryd.func44 (by kernel_rfl) rfl #[.slice A0_4 l0_4.length c0_4] (by rfl) rfl rfl (by (try simp only [List.map_toArray, List.map_cons, List.map_nil]); first | done | rfl | (simp only [List.length_drop, List.length_take]; rfl)) ?_
  with_reducible refine (store_weigh.calls k _ _ l0_4 t144 _ ?side1 ?side2 A2.out).mono ?_
  (case side1 => repeat (first | exact (Kd.C_below HR0_4.out HB.out) | (with_reducible refine Kd.C_alloc ?_ _) | (with_reducible refine Kd.C_drewN ?_ _) | (with_reducible refine Kd.C_drew ?_)))
  (case side2 => exact HC0_4.out)
  rintro e w6 ⟨rfl, hb⟩
  refine ⟨_, rfl, ?_⟩
  have n0_ := Aside0.mk (blk_below (g := gb143) (o := .cells #[.string a0_0, .string a0_1, .string a0_2, .string a0_3, .slice A0_4 l0_4.length c0_4, .slice A0_5 l0_5.length c0_5, .int .i64 a0_6, .slice A0_7 l0_7.length c0_7, .slice A0_8 l0_8.length c0_8, .int .i64 a0_9, .int .i64 a0_10] 39 (0, 0)) (by (with_reducible repeat (first | refine blk_drewN ?_ _ | refine blk_drew ?_ | refine blk_alloc ?_ _)); exact BK143.out) hb)
  have n1_ := Aside0.mk (below_step (by repeat (first | (with_reducible first | exact HB.out | apply below_alloc | apply pw_below_drewN | apply below_drew1 | refine below_set ?_ GE143.out) | exact HB.out)) hb)
  clear BK143
  clear HB
  have BK143 := n0_
  have HB := n1_
  clear n0_ n1_
  (try clear hb)
  (try clear hb2)
  (try clear hk)
  (try clear hi)
  refine hK.out _ _ ⟨(blk_cell BK143.out 0).trans rfl, (blk_cell BK143.out 1).trans rfl, (blk_cell BK143.out 2).trans rfl, (blk_cell BK143.out 3).trans rfl, (blk_cell BK143.out 4).trans rfl, (blk_cell BK143.out 5).trans rfl, (blk_cell BK143.out 6).trans rfl, (blk_cell BK143.out 7).trans rfl, (blk_cell BK143.out 8).trans rfl, (blk_cell BK143.out 9).trans rfl, (blk_cell BK143.out 10).trans rfl⟩ (fun hHeld => ?_)
  clear hK K
  refine norm_ (a' := ?_) ?_ ?_
  rotate_left
  · show Act.put _ (some 26) _ = _
    simp only [Act.put, List.setIfInBounds_toArray, List.set_cons_zero, List.set_cons_succ, i64_w, i32_w]
    rfl
  refine pure_ (i := 24) (N := some 27) (v := ?_) (a' := ?_) #[true, true, true, true, true, true, true, true, true, true, true, true, true, true, true, true, true, true, true, true, true, true, true, true, true, true, true, true, false, false, false] rfl rfl (any_of HT_.out (by kernel_rfl)) (fun _ _ _ h => h) (Or.inl ⟨by rfl, ?_⟩) ?_ ?_
  rotate_left
  · intro w'
    go_simp
    with_reducible rfl
  rotate_left
  · simp only [Act.put, List.setIfInBounds_toArray, List.set_cons_zero, List.set_cons_succ, i64_w, i32_w]
    rfl
  refine one_ (i := 28) (N := some 31) #[true, true, true, true, true, true, true, true, true, true, true, true, true, true, true, true, true, true, true, true, true, true, true, true, true, true, true, true, true, false, false] rfl rfl (one_of HT_.out (by kernel_rfl)) (by decide) (fun K hK => ?_)
  refine goes_ Tryd.func44 (by kernel_rfl) rfl #[.slice A0_7 l0_7.length c0_7] (by rfl) rfl rfl (by (try simp only [List.map_toArray, List.map_cons, List.map_nil]); first | done | rfl | (simp only [List.length_drop, List.length_take]; rfl)) ?_
  with_reducible refine (store_weigh.calls k _ _ l0_7 t145 _ ?side1 ?side2 A3.out).mono ?_
  (case side1 => repeat (first | exact (Kd.C_below HR0_7.out HB.out) | (with_reducible refine Kd.C_alloc ?_ _) | (with_reducible refine Kd.C_drewN ?_ _) | (with_reducible refine Kd.C_drew ?_)))
  (case side2 => exact HC0_7.out)
  rintro e w7 ⟨rfl, hb⟩
  refine ⟨_, rfl, ?_⟩
  have n0_ := Aside0.mk (blk_below (g := gb143) (o := .cells #[.string a0_0, .string a0_1, .string a0_2, .string a0_3, .slice A0_4 l0_4.length c0_4, .slice A0_5 l0_5.length c0_5, .int .i64 a0_6, .slice A0_7 l0_7.length c0_7, .slice A0_8 l0_8.length c0_8, .int .i64 a0_9, .int .i64 a0_10] 39 (0, 0)) (by (with_reducible repeat (first | refine blk_drewN ?_ _ | refine blk_drew ?_ | refine blk_alloc ?_ _)); exact BK143.out) hb)
  have n1_ := Aside0.mk (below_step (by repeat (first | (with_reducible first | exact HB.out | apply below_alloc | apply pw_below_drewN | apply below_drew1 | refine below_set ?_ GE143.out) | exact HB.out)) hb)
  clear BK143
  clear HB
  have BK143 := n0_
  have HB := n1_
  clear n0_ n1_
  (try clear hb)
  (try clear hb2)
  (try clear hk)
  (try clear hi)
  refine hK.out _ _ ⟨(blk_cell BK143.out 0).trans rfl, (blk_cell BK143.out 1).trans rfl, (blk_cell BK143.out 2).trans rfl, (blk_cell BK143.out 3).trans rfl, (blk_cell BK143.out 4).trans rfl, (blk_cell BK143.out 5).trans rfl, (blk_cell BK143.out 6).trans rfl, (blk_cell BK143.out 7).trans rfl, (blk_cell BK143.out 8).trans rfl, (blk_cell BK143.out 9).trans rfl, (blk_cell BK143.out 10).trans rfl⟩ (fun hHeld => ?_)
  clear hK K
  refine norm_ (a' := ?_) ?_ ?_
  rotate_left
  · show Act.put _ (some 31) _ = _
    simp only [Act.put, List.setIfInBounds_toArray, List.set_cons_zero, List.set_cons_succ, i64_w, i32_w]
    rfl
  refine pure_ (i := 29) (N := some 32) (v := ?_) (a' := ?_) #[true, true, true, true, true, true, true, true, true, true, true, true, true, true, true, true, true, true, true, true, true, true, true, true, true, true, true, true, true, true, false] rfl rfl (any_of HT_.out (by kernel_rfl)) (fun _ _ _ h => h) (Or.inl ⟨by rfl, ?_⟩) ?_ ?_
  rotate_left
  · intro w'
    go_simp
    with_reducible rfl
  rotate_left
  · simp only [Act.put, List.setIfInBounds_toArray, List.set_cons_zero, List.set_cons_succ, i64_w, i32_w]
    rfl
  refine pure_ (i := 30) (N := some 2) (v := ?_) (a' := ?_) #[true, true, true, true, true, true, true, true, true, true, true, true, true, true, true, true, true, true, true, true, true, true, true, true, true, true, true, true, true, true, true] rfl rfl (any_of HT_.out (by kernel_rfl)) (fun _ _ _ h => h) (Or.inl ⟨by rfl, ?_⟩) ?_ ?_
  rotate_left
  · intro w'
    go_simp
    with_reducible rfl
  rotate_left
  · simp only [Act.put, List.setIfInBounds_toArray, List.set_cons_zero, List.set_cons_succ, i64_w, i32_w]
    rfl
  refine done_ (done_of HT_.out (by kernel_rfl)) ?_
  try go_wp2
  go_ret
  exact ⟨by first | rfl | (simp [errW_none, errW_some] <;> rfl) | (simp [*, errW_none, errW_some] <;> rfl), by repeat (first | (with_reducible first | exact HB.out | apply below_alloc | apply pw_below_drewN | apply below_drew1 | refine below_set ?_ GE143.out) | exact HB.out)⟩

-- NOT PRINTED: function 39 (store_Store_drop)

-- NOT PRINTED: function 19 (store_Store_Put)

end Go.Proofs.YtbedkjmdckgbgaaDoor.P
/- An exchange (a stored one) as one value: its cells, what of it is read, and the contracts of the functions that only read it. -/
namespace Go.Proofs.YtbedkjmdckgbgaaDoor.P
open Go.RowKit Go.Proofs.YtbedkjmdckgbgaaDoorW.PrintWords Go.Proofs.YtbedkjmdckgbgaaDoorW.PrintLast
structure St where
  meth : ByteArray
  sch : ByteArray
  host : ByteArray
  path : ByteArray
  qf : List S63
  qb : List Int
  stat : Int
  sf : List S63
  sb : List Int
  asked : Int
  came : Int
/-- Where its rows lie. -/
structure Fr where
  a4 : Option Addr
  c4 : Nat
  a5 : Option Addr
  c5 : Nat
  a7 : Option Addr
  c7 : Nat
  a8 : Option Addr
  c8 : Nat
def reqC (x : St) (r : Fr) : Array Value := #[.string x.meth, .string x.sch, .string x.host, .string x.path, .slice r.a4 x.qf.length r.c4, .slice r.a5 x.qb.length r.c5]
def stC (x : St) (r : Fr) : Array Value := #[.string x.meth, .string x.sch, .string x.host, .string x.path, .slice r.a4 x.qf.length r.c4, .slice r.a5 x.qb.length r.c5, .int .i64 x.stat, .slice r.a7 x.sf.length r.c7, .slice r.a8 x.sb.length r.c8, .int .i64 x.asked, .int .i64 x.came]
/-- Its rows are read so. -/
structure Rd (w : World) (x : St) (r : Fr) : Prop where
  h4 : Kd.C k63 w r.a4 x.qf.length x.qf
  l4 : x.qf.length ≤ r.c4
  h5 : Kd.C (Kd.int .u8) w r.a5 x.qb.length x.qb
  l5 : x.qb.length ≤ r.c5
  h7 : Kd.C k63 w r.a7 x.sf.length x.sf
  l7 : x.sf.length ≤ r.c7
  h8 : Kd.C (Kd.int .u8) w r.a8 x.sb.length x.sb
  l8 : x.sb.length ≤ r.c8
theorem Rd.below {w w' : World} {x : St} {r : Fr} (h : Rd w x r) (hb : Below w.heap.size w w') : Rd w' x r :=
  ⟨Kd.C_below h.h4 hb, h.l4, Kd.C_below h.h5 hb, h.l5, Kd.C_below h.h7 hb, h.l7, Kd.C_below h.h8 hb, h.l8⟩
theorem right_calls (x : St) (r : Fr) (t : Bool) (w : World) (hr : Rd w x r) (h : fresh_Right.f x.meth x.sch x.host x.path x.qf x.qb x.stat x.sf x.sb x.asked x.came = some t) :
    Calls Tryd.prog 38 #[.agg (stC x r)] w fun e w' => e = .returned (.bool t) ∧ Below w.heap.size w w' :=
  fresh_Right.calls x.meth x.sch x.host x.path r.a4 r.c4 x.qf r.a5 r.c5 x.qb x.stat r.a7 r.c7 x.sf r.a8 r.c8 x.sb x.asked x.came t w hr.h4 hr.l4 hr.h5 hr.l5 hr.h7 hr.l7 hr.h8 hr.l8 h
theorem size_calls (k : Nat) (x : St) (r : Fr) (t : Int) (w : World) (hr : Rd w x r) (h : store_Size.f k x.meth x.sch x.host x.path x.qf x.qb x.stat x.sf x.sb x.asked x.came = some t) :
    Calls Tryd.prog 24 #[.agg (stC x r)] w fun e w' => e = .returned (.int .i64 t) ∧ Below w.heap.size w w' :=
  store_Size.calls k x.meth x.sch x.host x.path r.a4 r.c4 x.qf r.a5 r.c5 x.qb x.stat r.a7 r.c7 x.sf r.a8 r.c8 x.sb x.asked x.came t w hr.h4 hr.l4 hr.h5 hr.l5 hr.h7 hr.l7 hr.h8 hr.l8 h
theorem one_calls (k : Nat) (x y : St) (r s : Fr) (t : Bool) (w : World) (hr : Rd w x r) (hs : Rd w y s)
    (h : turnbuckleref20_One.f k x.meth x.sch x.host x.path x.qf x.qb x.stat x.sf x.sb x.asked x.came y.meth y.sch y.host y.path y.qf y.qb y.stat y.sf y.sb y.asked y.came = some t) :
    Calls Tryd.prog 9 #[.agg (stC x r), .agg (stC y s)] w fun e w' => e = .returned (.bool t) ∧ Below w.heap.size w w' :=
  turnbuckleref20_One.calls k x.meth x.sch x.host x.path r.a4 r.c4 x.qf r.a5 r.c5 x.qb x.stat r.a7 r.c7 x.sf r.a8 r.c8 x.sb x.asked x.came y.meth y.sch y.host y.path s.a4 s.c4 y.qf s.a5 s.c5 y.qb y.stat s.a7 s.c7 y.sf s.a8 s.c8 y.sb y.asked y.came t w hr.h4 hr.l4 hr.h5 hr.l5 hr.h7 hr.l7 hr.h8 hr.l8 hs.h4 hs.l4 hs.h5 hs.l5 hs.h7 hs.l7 hs.h8 hs.l8 h
end Go.Proofs.YtbedkjmdckgbgaaDoor.P
/- slices.Clone of fields and of bytes: a row of its own that reads the same. Condition: shorter than 2^42. -/
namespace Go.Proofs.YtbedkjmdckgbgaaDoor.P
open Go.RowKit Go.Shelf Go.Proofs.YtbedkjmdckgbgaaDoorW.PrintWords
set_option maxHeartbeats 2000000 in
set_option maxRecDepth 100000 in
theorem cloneB (A : Option Addr) (c : Nat) (l : List Int) (w : World) (hr : Kd.C (Kd.int .u8) w A l.length l) (hc : l.length ≤ c) (hl : l.length ≤ 4398046511104) :
    Calls Tryd.prog 52 #[.slice A l.length c] w fun e w' => ∃ v0, e = .returned v0 ∧ Kd.R (Kd.int .u8) 5 w' w.heap.size (fun _ => True) v0 l ∧ Below w.heap.size w w' := by
  cases A with
  | none =>
    have h0 : l.length = 0 := by
      by_cases h : 0 < l.length
      · obtain ⟨a, ha, _⟩ := hr.2.2 h
        cases ha
      · omega
    obtain rfl := List.eq_nil_of_length_eq_zero h0
    have he : ∀ W : World, (binOp .eql 30 (.slice none 0 c) (.slice none 0 0)).run Tryd.prog W = .ok (.bool true) W := fun _ => rfl
    clear hr h0
    go_enter Tryd.func52, Tryd.ntmps52
    go_wp2
    go_ret
    exact ⟨_, rfl, Kd.R_nil _ _ _ _ _, Below.refl _ _⟩
  | some a =>
    have he : ∀ W : World, (binOp .eql 30 (.slice (some a) l.length c) (.slice none 0 0)).run Tryd.prog W = .ok (.bool false) W := fun _ => rfl
    have HR := Lib.hid hr
    clear hr
    go_enter Tryd.func52, Tryd.ntmps52
    go_wp2_with (first | ((with_reducible refine gate_dst (N := 5) rfl ?_); refine Kd.R_lit (Kd.int .u8) w.heap.size 5 ?hg (N := 5) ?hd (xs := ([] : List Int)) (inner := []) (ok := fun _ => True) (okp := fun _ => True) ?hr ?hp (fun _ hk => hk) trivial (Below.refl _ w) (Nat.le_refl _) (by simp) ?_; (case hd => rfl); (case hg => rfl); (case hr => first | (go_simp; done) | (go_simp; rfl)); (case hp => exact Reps.none _ _); intro v5 w5 ho5 hb5 _ _; have H5 := Lib.hid ho5; have HB5 := Lib.hid hb5; have HR5 := Lib.hid (Kd.C_below HR.out hb5); clear ho5 hb5 HR) | ((with_reducible refine gate_dst (N := 7) rfl ?_); refine Kd.R_append_rows (Kd.int .u8) w.heap.size rfl _ _ 30 5 (.int .u8 0) 1 rfl Tryd.underlying30 (by kernel_rfl) rfl (by decide) (by decide) _ [] l (some a) l.length c (fun _ => True) (fun _ => False) rfl rfl H5.out HR5.out (fun _ _ h => h) (fun _ h => h.elim) (fun _ _ => trivial) HB5.out HB5.out.size (by simp only [List.length_nil]; omega) ?_; intro v7 w7 ho7 hb7 _ _; have H7 := Lib.hid ho7; have HB7 := Lib.hid hb7; clear ho7 hb7))
    go_ret
    exact ⟨_, rfl, H7.out, HB7.out⟩
set_option maxHeartbeats 2000000 in
set_option maxRecDepth 100000 in
theorem cloneF (A : Option Addr) (c : Nat) (l : List S63) (w : World) (hr : Kd.C (k63) w A l.length l) (hc : l.length ≤ c) (hl : l.length ≤ 4398046511104) :
    Calls Tryd.prog 51 #[.slice A l.length c] w fun e w' => ∃ v0, e = .returned v0 ∧ Kd.R (k63) 63 w' w.heap.size (fun _ => True) v0 l ∧ Below w.heap.size w w' := by
  cases A with
  | none =>
    have h0 : l.length = 0 := by
      by_cases h : 0 < l.length
      · obtain ⟨a, ha, _⟩ := hr.2.2 h
        cases ha
      · omega
    obtain rfl := List.eq_nil_of_length_eq_zero h0
    have he : ∀ W : World, (binOp .eql 29 (.slice none 0 c) (.slice none 0 0)).run Tryd.prog W = .ok (.bool true) W := fun _ => rfl
    clear hr h0
    go_enter Tryd.func51, Tryd.ntmps51
    go_wp2
    go_ret
    exact ⟨_, rfl, Kd.R_nil _ _ _ _ _, Below.refl _ _⟩
  | some a =>
    have he : ∀ W : World, (binOp .eql 29 (.slice (some a) l.length c) (.slice none 0 0)).run Tryd.prog W = .ok (.bool false) W := fun _ => rfl
    have HR := Lib.hid hr
    clear hr
    go_enter Tryd.func51, Tryd.ntmps51
    go_wp2_with (first | ((with_reducible refine gate_dst (N := 5) rfl ?_); refine Kd.R_lit (k63) w.heap.size 63 ?hg (N := 5) ?hd (xs := ([] : List S63)) (inner := []) (ok := fun _ => True) (okp := fun _ => True) ?hr ?hp (fun _ hk => hk) trivial (Below.refl _ w) (Nat.le_refl _) (by simp) ?_; (case hd => rfl); (case hg => rfl); (case hr => first | (go_simp; done) | (go_simp; rfl)); (case hp => exact Reps.none _ _); intro v5 w5 ho5 hb5 _ _; have H5 := Lib.hid ho5; have HB5 := Lib.hid hb5; have HR5 := Lib.hid (Kd.C_below HR.out hb5); clear ho5 hb5 HR) | ((with_reducible refine gate_dst (N := 7) rfl ?_); refine Kd.R_append_rows (k63) w.heap.size rfl _ _ 29 63 (.agg #[.string ByteArray.empty, .string ByteArray.empty]) 32 rfl Tryd.underlying29 (by kernel_rfl) rfl (by decide) (by decide) _ [] l (some a) l.length c (fun _ => True) (fun _ => False) rfl rfl H5.out HR5.out (fun _ _ h => h) (fun _ h => h.elim) (fun _ _ => trivial) HB5.out HB5.out.size (by simp only [List.length_nil]; omega) ?_; intro v7 w7 ho7 hb7 _ _; have H7 := Lib.hid ho7; have HB7 := Lib.hid hb7; clear ho7 hb7))
    go_ret
    exact ⟨_, rfl, H7.out, HB7.out⟩
end Go.Proofs.YtbedkjmdckgbgaaDoor.P
/- The store's links: blocks, and the two functions that take one out and put one in. -/
namespace Go.Proofs.YtbedkjmdckgbgaaDoor.P
open Go.RowKit Go.Shelf Go.Proofs.YtbedkjmdckgbgaaDoorW.PrintWords
def ptr (o : Option Nat) : Value := .pointer (o.map fun b => ⟨b, 0, none⟩)
def linkC (x : St) (r : Fr) (sz : Int) (nw od : Option Nat) : Array Value := #[.string x.meth, .string x.sch, .string x.host, .string x.path, .slice r.a4 x.qf.length r.c4, .slice r.a5 x.qb.length r.c5, .int .i64 x.stat, .slice r.a7 x.sf.length r.c7, .slice r.a8 x.sb.length r.c8, .int .i64 x.asked, .int .i64 x.came, .int .i64 sz, ptr nw, ptr od]
def LinkAt (W : World) (b : Nat) (x : St) (r : Fr) (sz : Int) (nw od : Option Nat) : Prop := W.heap[b]? = some (.cells (linkC x r sz nw od) 71 (0, 0))
def storeC (cap used : Int) (n o : Option Nat) : Array Value := #[.bool true, .int .i64 cap, .int .i64 used, ptr n, ptr o]
def StoreAt (W : World) (s : Nat) (cap used : Int) (n o : Option Nat) : Prop := W.heap[s]? = some (.cells (storeC cap used n o) 56 (0, 0))
/-- The blocks outside a list lie as they lay; no new ones. -/
structure Upd (S : List Nat) (W W' : World) : Prop where
  os : W'.os = W.os
  tape : W'.tape = W.tape
  output : W'.output = W.output
  size : W'.heap.size = W.heap.size
  block : ∀ k, k ∉ S → W'.heap[k]? = W.heap[k]?
theorem Upd.refl (S : List Nat) (W : World) : Upd S W W := ⟨rfl, rfl, rfl, rfl, fun _ _ => rfl⟩
theorem Upd.trans {S : List Nat} {A B C : World} (h : Upd S A B) (k : Upd S B C) : Upd S A C :=
  ⟨k.os.trans h.os, k.tape.trans h.tape, k.output.trans h.output, k.size.trans h.size, fun i hi => (k.block i hi).trans (h.block i hi)⟩
theorem Upd.sub {S T : List Nat} {A B : World} (h : Upd S A B) (hs : ∀ k ∈ S, k ∈ T) : Upd T A B := ⟨h.os, h.tape, h.output, h.size, fun k hk => h.block k (fun hi => hk (hs k hi))⟩
theorem Upd.below {S : List Nat} {A B : World} (h : Upd S A B) {n : Nat} (hs : ∀ k ∈ S, n ≤ k) : Below n A B :=
  ⟨h.os, h.tape, h.output, Nat.le_of_eq h.size.symm, fun k hk => h.block k (fun hi => by have := hs k hi; omega)⟩
theorem Upd.drew {S : List Nat} {A B : World} (h : Upd S A B) (n : Nat) : Upd S A (B.drewN n) := ⟨h.os, h.tape, h.output, h.size, h.block⟩
theorem Upd.setCell {S : List Nat} {A B : World} (h : Upd S A B) {b j : Nat} (hb : b ∈ S) (v : Value) : Upd S A (B.setCell ⟨b, j, none⟩ v) :=
  h.trans ⟨rfl, rfl, rfl, by simp [World.setCell], fun k hk => by
    have : b ≠ k := fun e => hk (e ▸ hb)
    simp [World.setCell, Array.getElem?_modify, this]⟩
/-- A cell of a row is written. -/
theorem row_set {W : World} {b : Nat} {cs : Array Value} {t : Nat} (h : W.heap[b]? = some (.cells cs t (0, 0))) (j : Nat) (v : Value) : (W.setCell ⟨b, j, none⟩ v).heap[b]? = some (.cells (cs.setIfInBounds j v) t (0, 0)) := by
  simp [World.setCell, Array.getElem?_modify, h]
theorem row_other {W : World} {b b' j : Nat} {v : Value} (h : b ≠ b') : (W.setCell ⟨b, j, none⟩ v).heap[b']? = W.heap[b']? := by
  simp [World.setCell, Array.getElem?_modify, h]
theorem row_cell {W : World} {b : Nat} {cs : Array Value} {t : Nat} (h : W.heap[b]? = some (.cells cs t (0, 0))) (j : Nat) : W.cell? ⟨b, j, none⟩ = cs[j]? := by
  simp [World.cell?, h]
theorem row_free {W : World} {b : Nat} {cs : Array Value} {t : Nat} (h : W.heap[b]? = some (.cells cs t (0, 0))) (j : Nat) : W.frozen? ⟨b, j, none⟩ = false := by
  simp [World.frozen?, h]
end Go.Proofs.YtbedkjmdckgbgaaDoor.P
/- store.own: an exchange whose rows are its own. Condition: rows shorter than 2^42. -/
namespace Go.Proofs.YtbedkjmdckgbgaaDoor.P
open Go.RowKit Go.Shelf Go.Proofs.YtbedkjmdckgbgaaDoorW.PrintWords
/-- An exchange whose rows are owned (from block base on). -/
structure RdO (w : World) (base : Nat) (x : St) (r : Fr) : Prop where
  h4 : Kd.R k63 63 w base (fun _ => True) (.slice r.a4 x.qf.length r.c4) x.qf
  h5 : Kd.R (Kd.int .u8) 5 w base (fun _ => True) (.slice r.a5 x.qb.length r.c5) x.qb
  h7 : Kd.R k63 63 w base (fun _ => True) (.slice r.a7 x.sf.length r.c7) x.sf
  h8 : Kd.R (Kd.int .u8) 5 w base (fun _ => True) (.slice r.a8 x.sb.length r.c8) x.sb
theorem RdO.rd {w : World} {base : Nat} {x : St} {r : Fr} (h : RdO w base x r) : Rd w x r :=
  ⟨(Kd.R_reads' h.h4).2.2, (Kd.R_reads' h.h4).2.1, (Kd.R_reads' h.h5).2.2, (Kd.R_reads' h.h5).2.1, (Kd.R_reads' h.h7).2.2, (Kd.R_reads' h.h7).2.1, (Kd.R_reads' h.h8).2.2, (Kd.R_reads' h.h8).2.1⟩
structure Small (x : St) : Prop where
  s4 : x.qf.length ≤ 4398046511104
  s5 : x.qb.length ≤ 4398046511104
  s7 : x.sf.length ≤ 4398046511104
  s8 : x.sb.length ≤ 4398046511104
def Row39 (W : World) (B : Nat) (x : St) (r : Fr) : Prop := W.heap[B]? = some (.cells (stC x r) 39 (0, 0))
theorem st_store (P : Program) (w : World) (g : Nat) (old : Array Value) (hs : old.size = 11) (t : TypeId) (x : St) (r : Fr) (hg : w.heap[g]? = some (.cells old t (0, 0))) :
    (storeCells ⟨g, 0, none⟩ (stC x r).toList).run P w = .ok () (w.setRow g (stC x r)) := by
  have hl : (stC x r).toList.length = 11 := rfl
  have h := run_storeCells_at (P := P) g 0 t (stC x r).toList 0 old w hg (by rw [hl]; omega) (by
    intro v hv
    simp only [stC, List.mem_cons, List.mem_nil_iff, or_false] at hv
    rcases hv with rfl | rfl | rfl | rfl | rfl | rfl | rfl | rfl | rfl | rfl | rfl <;> rfl)
  rw [h, List.drop_of_length_le (by rw [hl]; simp [hs])]
  simp
theorem R_upd {α : Type} {d : Kd α} {e base B : Nat} {w w1 : World} {v : Value} {xs : List α} (h : Kd.R d e w base (fun _ => True) v xs) (hB : B < base) (hu : Upd [B] w w1) : Kd.R d e w1 base (fun _ => True) v xs :=
  Kd.R_mono (Kd.R_move (Kd.R_bound h) (fun k hk => hu.block k (by have := hk.2.1; simp; omega))) (fun _ _ => trivial)
set_option maxHeartbeats 2000000 in
set_option maxRecDepth 100000 in
theorem own_calls (x : St) (r : Fr) (w : World) (hr : Rd w x r) (hs : Small x) :
    Calls Tryd.prog 30 #[.agg (stC x r)] w fun e w' => ∃ r', e = .returned (.agg (stC x r')) ∧ RdO w' w.heap.size x r' ∧ Below w.heap.size w w' := by
  have hu := Tryd.underlying39
  have HR := Lib.hid hr
  have HS := Lib.hid hs
  clear hr hs
  go_enter Tryd.func30, Tryd.ntmps30
  go_wp2
  have hw0 : Row39 ((w.alloc (.cells (stC x r) 39)).alloc (.cells #[.string ⟨#[]⟩, .string ⟨#[]⟩, .string ⟨#[]⟩, .string ⟨#[]⟩, .slice none 0 0, .slice none 0 0, .int .i64 0, .slice none 0 0, .slice none 0 0, .int .i64 0, .int .i64 0] 39)) w.heap.size x r :=
    (Below.heap_alloc _ _ _ (by simp)).trans (World.alloc_heap_new w _)
  have hz0 : ((w.alloc (.cells (stC x r) 39)).alloc (.cells #[.string ⟨#[]⟩, .string ⟨#[]⟩, .string ⟨#[]⟩, .string ⟨#[]⟩, .slice none 0 0, .slice none 0 0, .int .i64 0, .slice none 0 0, .slice none 0 0, .int .i64 0, .int .i64 0] 39)).heap[w.heap.size + 1]? = some (.cells #[.string ⟨#[]⟩, .string ⟨#[]⟩, .string ⟨#[]⟩, .string ⟨#[]⟩, .slice none 0 0, .slice none 0 0, .int .i64 0, .slice none 0 0, .slice none 0 0, .int .i64 0, .int .i64 0] 39 (0, 0)) := by
    have h := World.alloc_heap_new (w.alloc (.cells (stC x r) 39)) (.cells #[.string ⟨#[]⟩, .string ⟨#[]⟩, .string ⟨#[]⟩, .string ⟨#[]⟩, .slice none 0 0, .slice none 0 0, .int .i64 0, .slice none 0 0, .slice none 0 0, .int .i64 0, .int .i64 0] 39)
    rwa [World.size_alloc] at h
  have hb0 : Below w.heap.size w ((w.alloc (.cells (stC x r) 39)).alloc (.cells #[.string ⟨#[]⟩, .string ⟨#[]⟩, .string ⟨#[]⟩, .string ⟨#[]⟩, .slice none 0 0, .slice none 0 0, .int .i64 0, .slice none 0 0, .slice none 0 0, .int .i64 0, .int .i64 0] 39)) := below_alloc (below_alloc (Below.refl _ _) _) _
  have hs0 : ((w.alloc (.cells (stC x r) 39)).alloc (.cells #[.string ⟨#[]⟩, .string ⟨#[]⟩, .string ⟨#[]⟩, .string ⟨#[]⟩, .slice none 0 0, .slice none 0 0, .int .i64 0, .slice none 0 0, .slice none 0 0, .int .i64 0, .int .i64 0] 39)).heap.size = w.heap.size + 2 := by simp
  generalize ((w.alloc (.cells (stC x r) 39)).alloc (.cells #[.string ⟨#[]⟩, .string ⟨#[]⟩, .string ⟨#[]⟩, .string ⟨#[]⟩, .slice none 0 0, .slice none 0 0, .int .i64 0, .slice none 0 0, .slice none 0 0, .int .i64 0, .int .i64 0] 39)) = W0 at *
  have c4 : W0.cell? ⟨w.heap.size, 4, none⟩ = some (.slice r.a4 x.qf.length r.c4) := (row_cell hw0 4).trans rfl
  have c5 : W0.cell? ⟨w.heap.size, 5, none⟩ = some (.slice r.a5 x.qb.length r.c5) := (row_cell hw0 5).trans rfl
  have f4 := row_free hw0 4
  have f5 := row_free hw0 5
  have HW0 := Lib.hid hw0
  have HZ0 := Lib.hid hz0
  have HB0 := Lib.hid hb0
  have HS0 := Lib.hid hs0
  clear hw0 hz0 hb0 hs0
  have HRD := Lib.hid ((HR.out.below HB0.out).below ((Below.refl _ W0).drew))
  go_upto_region 1 with (fail)
  go_cut [6] (fun v6 wc => ∃ (a4 : Option Addr) (c4 : Nat) (a5 : Option Addr) (c5 : Nat), Hid (Row39 wc w.heap.size x ⟨a4, c4, a5, c5, r.a7, r.c7, r.a8, r.c8⟩) ∧ Hid (Kd.R k63 63 wc (w.heap.size + 2) (fun _ => True) (.slice a4 x.qf.length c4) x.qf) ∧ Hid (Kd.R (Kd.int .u8) 5 wc (w.heap.size + 2) (fun _ => True) (.slice a5 x.qb.length c5) x.qb) ∧ Hid (Below w.heap.size w wc) ∧ Hid (wc.heap[w.heap.size + 1]? = some (.cells #[.string ⟨#[]⟩, .string ⟨#[]⟩, .string ⟨#[]⟩, .string ⟨#[]⟩, .slice none 0 0, .slice none 0 0, .int .i64 0, .slice none 0 0, .slice none 0 0, .int .i64 0, .int .i64 0] 39 (0, 0))) ∧ Hid (w.heap.size + 2 ≤ wc.heap.size))
  case first =>
    go_region_with (first | (go_at_call 51; refine (cloneF r.a4 r.c4 x.qf _ HRD.out.h4 HRD.out.l4 HS.out.s4).mono ?_; rintro e w1 ⟨v1, rfl, ho1, hb1⟩; obtain ⟨A1, k1, rfl⟩ := Kd.R_slice ho1; have g5 := (hb1.cell (p := ⟨w.heap.size, 5, none⟩) (by have := HS0.out; show w.heap.size < W0.heap.size; omega)).trans c5; have HO1 := Lib.hid ho1; have HB1 := Lib.hid hb1; clear ho1 hb1) | (go_at_call 52; refine (cloneB r.a5 r.c5 x.qb _ (Kd.C_below HRD.out.h5 HB1.out) HRD.out.l5 HS.out.s5).mono ?_; rintro e w2 ⟨v2, rfl, ho2, hb2⟩; obtain ⟨A2, k2, rfl⟩ := Kd.R_slice ho2; have hd2 := below_step HB1.out hb2; have hrow2 := (hd2.block w.heap.size (by have := HS0.out; show w.heap.size < W0.heap.size; omega)).trans HW0.out; have d4 : w2.cell? ⟨w.heap.size, 4, none⟩ = some (.slice r.a4 x.qf.length r.c4) := (row_cell hrow2 4).trans rfl; have d5 : w2.cell? ⟨w.heap.size, 5, none⟩ = some (.slice r.a5 x.qb.length r.c5) := (row_cell hrow2 5).trans rfl; have e4 := row_free hrow2 4; have e5 := row_free hrow2 5; have HROW2 := Lib.hid hrow2; have HD2 := Lib.hid hd2; have HO2 := Lib.hid ho2; have HO1b := Lib.hid (Kd.R_below HO1.out hb2); clear hrow2 hd2 ho2 hb2))
    all_goals go_wp2
    all_goals go_meet
    all_goals
      case rel =>
        have hu2 := ((Upd.refl [w.heap.size] w2).setCell (b := w.heap.size) (j := 4) (by simp) (.slice A1 x.qf.length k1)).setCell (b := w.heap.size) (j := 5) (by simp) (.slice A2 x.qb.length k2)
        have hsz : w.heap.size + 2 ≤ w2.heap.size := by have h1 := HS0.out; have h2 := HD2.out.size; have h3 : W0.drew.heap.size = W0.heap.size := rfl; omega
        have hW0 : W0.drew.heap.size = w.heap.size + 2 := HS0.out
        have hB1' : w.heap.size + 2 ≤ w1.heap.size := by have := HB1.out.size; omega
        refine ⟨A1, k1, A2, k2, Lib.hid (row_set (row_set HROW2.out 4 _) 5 _), Lib.hid (R_upd (Kd.R_lower HO1b.out (by omega)) (by omega) hu2), Lib.hid (R_upd (Kd.R_lower HO2.out hB1') (by omega) hu2), Lib.hid ?_, Lib.hid ?_, Lib.hid ?_⟩
        · exact (below_then HB0.out (by have := HS0.out; omega) (show Below W0.heap.size W0 w2 from ⟨HD2.out.os, HD2.out.tape, HD2.out.output, HD2.out.size, HD2.out.block⟩)).trans (hu2.below (by simp))
        · exact (hu2.block _ (by simp)).trans ((HD2.out.block (w.heap.size + 1) (by have := HS0.out; show w.heap.size + 1 < W0.heap.size; omega)).trans HZ0.out)
        · rw [hu2.size]; exact hsz
  case rest =>
    clear HRD HW0 HZ0 HB0 HS0 c4 c5 f4 f5
    obtain ⟨a4, k4, a5, k5, hrow, h4, h5, hb, hz, hsz⟩ := hcut
    have b7 : wc.cell? ⟨w.heap.size, 7, none⟩ = some (.slice r.a7 x.sf.length r.c7) := (row_cell hrow.out 7).trans rfl
    have b8 : wc.cell? ⟨w.heap.size, 8, none⟩ = some (.slice r.a8 x.sb.length r.c8) := (row_cell hrow.out 8).trans rfl
    have e7 := row_free hrow.out 7
    have e8 := row_free hrow.out 8
    have HRD := Lib.hid ((HR.out.below hb.out).below ((Below.refl _ wc).drew))
    go_upto_region 2 with (fail)
    go_cut [18] (fun v18 wd => ∃ (a7 : Option Addr) (c7 : Nat) (a8 : Option Addr) (c8 : Nat), Hid (Row39 wd w.heap.size x ⟨a4, k4, a5, k5, a7, c7, a8, c8⟩) ∧ Hid (RdO wd (w.heap.size + 2) x ⟨a4, k4, a5, k5, a7, c7, a8, c8⟩) ∧ Hid (Below w.heap.size w wd) ∧ Hid (wd.heap[w.heap.size + 1]? = some (.cells #[.string ⟨#[]⟩, .string ⟨#[]⟩, .string ⟨#[]⟩, .string ⟨#[]⟩, .slice none 0 0, .slice none 0 0, .int .i64 0, .slice none 0 0, .slice none 0 0, .int .i64 0, .int .i64 0] 39 (0, 0))))
    case first =>
      go_region_with (first | (go_at_call 51; refine (cloneF r.a7 r.c7 x.sf _ HRD.out.h7 HRD.out.l7 HS.out.s7).mono ?_; rintro e w1 ⟨v1, rfl, ho1, hb1⟩; obtain ⟨A1, k1, rfl⟩ := Kd.R_slice ho1; have g8 := (hb1.cell (p := ⟨w.heap.size, 8, none⟩) (by have := hsz.out; show w.heap.size < wc.heap.size; omega)).trans b8; have HO1 := Lib.hid ho1; have HB1 := Lib.hid hb1; clear ho1 hb1) | (go_at_call 52; refine (cloneB r.a8 r.c8 x.sb _ (Kd.C_below HRD.out.h8 HB1.out) HRD.out.l8 HS.out.s8).mono ?_; rintro e w2 ⟨v2, rfl, ho2, hb2⟩; obtain ⟨A2, k2, rfl⟩ := Kd.R_slice ho2; have hd2 := below_step HB1.out hb2; have hrow2 := (hd2.block w.heap.size (by have := hsz.out; show w.heap.size < wc.heap.size; omega)).trans hrow.out; have d7 : w2.cell? ⟨w.heap.size, 7, none⟩ = some (.slice r.a7 x.sf.length r.c7) := (row_cell hrow2 7).trans rfl; have d8 : w2.cell? ⟨w.heap.size, 8, none⟩ = some (.slice r.a8 x.sb.length r.c8) := (row_cell hrow2 8).trans rfl; have g7 := row_free hrow2 7; have g9 := row_free hrow2 8; have HROW2 := Lib.hid hrow2; have HD2 := Lib.hid hd2; have HO2 := Lib.hid ho2; have HO1b := Lib.hid (Kd.R_below HO1.out hb2); clear hrow2 hd2 ho2 hb2))
      all_goals go_wp2
      all_goals go_meet
      all_goals
        case rel =>
          have hu2 := ((Upd.refl [w.heap.size] w2).setCell (b := w.heap.size) (j := 7) (by simp) (.slice A1 x.sf.length k1)).setCell (b := w.heap.size) (j := 8) (by simp) (.slice A2 x.sb.length k2)
          have hsz' := hsz.out
          have hwd : wc.drew.heap.size = wc.heap.size := rfl
          have hB1' : w.heap.size + 2 ≤ w1.heap.size := by have := HB1.out.size; omega
          have hdd : Below wc.heap.size wc w2 := ⟨HD2.out.os, HD2.out.tape, HD2.out.output, HD2.out.size, HD2.out.block⟩
          refine ⟨A1, k1, A2, k2, Lib.hid (row_set (row_set HROW2.out 7 _) 8 _), Lib.hid ⟨R_upd (Kd.R_below h4.out hdd) (by omega) hu2, R_upd (Kd.R_below h5.out hdd) (by omega) hu2, R_upd (Kd.R_lower HO1b.out (by omega)) (by omega) hu2, R_upd (Kd.R_lower HO2.out hB1') (by omega) hu2⟩, Lib.hid ?_, Lib.hid ?_⟩
          · exact (below_then hb.out (by omega) hdd).trans (hu2.below (by simp))
          · exact (hu2.block _ (by simp)).trans ((hdd.block (w.heap.size + 1) (by omega)).trans hz.out)
    case rest =>
      clear HRD hrow h4 h5 hb hz hsz b7 b8 e7 e8
      obtain ⟨a7, k7, a8, k8, hrow, hO, hb, hz⟩ := hcut
      have hR : wc.heap[w.heap.size]? = some (.cells (stC x ⟨a4, k4, a5, k5, a7, k7, a8, k8⟩) 39 (0, 0)) := hrow.out
      have HZ := hz.out
      have hst := st_store Tryd.prog wc (w.heap.size + 1) _ rfl _ x ⟨a4, k4, a5, k5, a7, k7, a8, k8⟩ HZ
      have HRW := Lib.hid hR
      clear hR HZ
      go_wp2_with (first | (refine wpList_load_row rfl _ _ rfl w.heap.size rfl _ _ (0, 0) _ HRW.out Tryd.underlying39 rfl (by kernel_rfl) ?_))
      refine bodyPost_ret (results_cell_row rfl _ _ (w.heap.size + 1) _ (stC x ⟨a4, k4, a5, k5, a7, k7, a8, k8⟩) (0, 0) _ rfl (setRow_heap _ _ _ _ _ _ hz.out) Tryd.underlying39 rfl (by kernel_rfl)) rfl ⟨_, rfl, ?_, ?_⟩
      · have hu3 : Upd [w.heap.size + 1] wc (wc.setRow (w.heap.size + 1) (stC x ⟨a4, k4, a5, k5, a7, k7, a8, k8⟩)) := ⟨rfl, rfl, rfl, by simp, fun k hk => setRow_other _ _ _ _ (by simpa using hk)⟩
        have hOO := hO.out
        exact ⟨Kd.R_lower (R_upd hOO.h4 (by omega) hu3) (by omega), Kd.R_lower (R_upd hOO.h5 (by omega) hu3) (by omega), Kd.R_lower (R_upd hOO.h7 (by omega) hu3) (by omega), Kd.R_lower (R_upd hOO.h8 (by omega) hu3) (by omega)⟩
      · exact below_setRow hb.out (Nat.le_succ _) _
end Go.Proofs.YtbedkjmdckgbgaaDoor.P
/- (*Store).out: a lone link; the oldest one. -/
namespace Go.Proofs.YtbedkjmdckgbgaaDoor.P
open Go.RowKit Go.Shelf Go.Proofs.YtbedkjmdckgbgaaDoorW.PrintWords
set_option maxHeartbeats 2000000 in
set_option maxRecDepth 100000 in
theorem out_nn (W : World) (s l : Nat) (cap used sz : Int) (ns os : Option Nat) (x : St) (r : Fr) (hs : StoreAt W s cap used ns os) (hl : LinkAt W l x r sz (none) (none)) (hsl : s ≠ l) :
    Calls Tryd.prog 28 #[.pointer (some ⟨s, 0, none⟩), .pointer (some ⟨l, 0, none⟩)] W fun e w' => (∃ v, e = .returned v) ∧ StoreAt w' s cap (wrap64 (used - sz)) (none) (none) ∧ LinkAt w' l x r sz none none ∧ Upd [s, l] W w' := by
  have hls : l ≠ s := fun e => hsl e.symm
  have c1 : W.cell? ⟨l, 12, none⟩ = some (.pointer none) := (row_cell hl 12).trans rfl
  have c2 : W.cell? ⟨l, 13, none⟩ = some (.pointer none) := (row_cell hl 13).trans rfl
  have c3 : W.cell? ⟨l, 11, none⟩ = some (.int .i64 sz) := (row_cell hl 11).trans rfl
  have c4 : W.cell? ⟨s, 2, none⟩ = some (.int .i64 used) := (row_cell hs 2).trans rfl
  have c5 : W.cell? ⟨s, 3, none⟩ = some (ptr ns) := (row_cell hs 3).trans rfl
  have c6 : W.cell? ⟨s, 4, none⟩ = some (ptr os) := (row_cell hs 4).trans rfl
  have f1 := row_free hs 3
  have f2 := row_free hs 4
  have f3 := row_free hs 2
  have f4 := row_free hl 12
  have f5 := row_free hl 13
  have gs0 := row_set hs 3 (.pointer none)
  have gs1 := row_set gs0 4 (.pointer none)
  have gs2 := (row_other (j := 12) (v := .pointer none) (hls)).trans gs1
  have gs3 := (row_other (j := 13) (v := .pointer none) (hls)).trans gs2
  have gs4 := row_set gs3 2 (.int .i64 (wrap64 (used - sz)))
  have gl0 := (row_other (j := 3) (v := .pointer none) (hsl)).trans hl
  have gl1 := (row_other (j := 4) (v := .pointer none) (hsl)).trans gl0
  have gl2 := row_set gl1 12 (.pointer none)
  have gl3 := row_set gl2 13 (.pointer none)
  have gl4 := (row_other (j := 2) (v := .int .i64 (wrap64 (used - sz))) (hsl)).trans gl3
  have hu : Upd [s, l] W (((((W.setCell ⟨s, 3, none⟩ (.pointer none)).setCell ⟨s, 4, none⟩ (.pointer none)).setCell ⟨l, 12, none⟩ (.pointer none)).setCell ⟨l, 13, none⟩ (.pointer none)).setCell ⟨s, 2, none⟩ (.int .i64 (wrap64 (used - sz)))) := ((((((Upd.refl _ _).setCell (by simp) _).setCell (by simp) _).setCell (by simp) _).setCell (by simp) _).setCell (by simp) _)
  have Gs := Lib.hid gs4
  have Gl := Lib.hid gl4
  have HU := Lib.hid hu
  clear hu hs hl gs0 gs1 gs2 gs3 gs4 gl0 gl1 gl2 gl3 gl4
  go_enter Tryd.func28, Tryd.ntmps28
  go_wp2
  go_region
  go_end0
  exact ⟨⟨_, rfl⟩, Gs.out, Gl.out, HU.out.drew 1⟩
set_option maxHeartbeats 2000000 in
set_option maxRecDepth 100000 in
theorem out_sn (W : World) (s l : Nat) (cap used sz : Int) (ns os : Option Nat) (x : St) (r : Fr) (p : Nat) (xp : St) (rp : Fr) (zp : Int) (np : Option Nat) (hp : LinkAt W p xp rp zp np (some l)) (hsp : s ≠ p) (hlp : l ≠ p) (hs : StoreAt W s cap used ns os) (hl : LinkAt W l x r sz (some p) (none)) (hsl : s ≠ l) :
    Calls Tryd.prog 28 #[.pointer (some ⟨s, 0, none⟩), .pointer (some ⟨l, 0, none⟩)] W fun e w' => (∃ v, e = .returned v) ∧ StoreAt w' s cap (wrap64 (used - sz)) ns (some p) ∧ LinkAt w' l x r sz none none ∧ LinkAt w' p xp rp zp np (none) ∧ Upd [s, l, p] W w' := by
  have hls : l ≠ s := fun e => hsl e.symm
  have hps : p ≠ s := fun e => hsp e.symm
  have hpl : p ≠ l := fun e => hlp e.symm
  have c1 : W.cell? ⟨l, 12, none⟩ = some (.pointer (some ⟨p, 0, none⟩)) := (row_cell hl 12).trans rfl
  have c2 : W.cell? ⟨l, 13, none⟩ = some (.pointer none) := (row_cell hl 13).trans rfl
  have c3 : W.cell? ⟨l, 11, none⟩ = some (.int .i64 sz) := (row_cell hl 11).trans rfl
  have c4 : W.cell? ⟨s, 2, none⟩ = some (.int .i64 used) := (row_cell hs 2).trans rfl
  have c5 : W.cell? ⟨s, 3, none⟩ = some (ptr ns) := (row_cell hs 3).trans rfl
  have c6 : W.cell? ⟨s, 4, none⟩ = some (ptr os) := (row_cell hs 4).trans rfl
  have f1 := row_free hs 3
  have f2 := row_free hs 4
  have f3 := row_free hs 2
  have f4 := row_free hl 12
  have f5 := row_free hl 13
  have c7 : W.cell? ⟨p, 13, none⟩ = some (.pointer (some ⟨l, 0, none⟩)) := (row_cell hp 13).trans rfl
  have f6 := row_free hp 13
  have gs0 := (row_other (j := 13) (v := .pointer none) (hps)).trans hs
  have gs1 := row_set gs0 4 (.pointer (some ⟨p, 0, none⟩))
  have gs2 := (row_other (j := 12) (v := .pointer none) (hls)).trans gs1
  have gs3 := (row_other (j := 13) (v := .pointer none) (hls)).trans gs2
  have gs4 := row_set gs3 2 (.int .i64 (wrap64 (used - sz)))
  have gl0 := (row_other (j := 13) (v := .pointer none) (hpl)).trans hl
  have gl1 := (row_other (j := 4) (v := .pointer (some ⟨p, 0, none⟩)) (hsl)).trans gl0
  have gl2 := row_set gl1 12 (.pointer none)
  have gl3 := row_set gl2 13 (.pointer none)
  have gl4 := (row_other (j := 2) (v := .int .i64 (wrap64 (used - sz))) (hsl)).trans gl3
  have gp0 := row_set hp 13 (.pointer none)
  have gp1 := (row_other (j := 4) (v := .pointer (some ⟨p, 0, none⟩)) (hsp)).trans gp0
  have gp2 := (row_other (j := 12) (v := .pointer none) (hlp)).trans gp1
  have gp3 := (row_other (j := 13) (v := .pointer none) (hlp)).trans gp2
  have gp4 := (row_other (j := 2) (v := .int .i64 (wrap64 (used - sz))) (hsp)).trans gp3
  have hu : Upd [s, l, p] W (((((W.setCell ⟨p, 13, none⟩ (.pointer none)).setCell ⟨s, 4, none⟩ (.pointer (some ⟨p, 0, none⟩))).setCell ⟨l, 12, none⟩ (.pointer none)).setCell ⟨l, 13, none⟩ (.pointer none)).setCell ⟨s, 2, none⟩ (.int .i64 (wrap64 (used - sz)))) := ((((((Upd.refl _ _).setCell (by simp) _).setCell (by simp) _).setCell (by simp) _).setCell (by simp) _).setCell (by simp) _)
  have Gs := Lib.hid gs4
  have Gl := Lib.hid gl4
  have Gp := Lib.hid gp4
  have HU := Lib.hid hu
  clear hu hs hl hp gs0 gs1 gs2 gs3 gs4 gl0 gl1 gl2 gl3 gl4 gp0 gp1 gp2 gp3 gp4
  go_enter Tryd.func28, Tryd.ntmps28
  go_wp2
  go_region
  go_wp2
  go_region
  go_end0
  exact ⟨⟨_, rfl⟩, Gs.out, Gl.out, Gp.out, HU.out.drew 2⟩
end Go.Proofs.YtbedkjmdckgbgaaDoor.P
/- (*Store).out: the newest link of several. -/
namespace Go.Proofs.YtbedkjmdckgbgaaDoor.P
open Go.RowKit Go.Shelf Go.Proofs.YtbedkjmdckgbgaaDoorW.PrintWords
set_option maxHeartbeats 2000000 in
set_option maxRecDepth 100000 in
theorem out_ns (W : World) (s l : Nat) (cap used sz : Int) (ns os : Option Nat) (x : St) (r : Fr) (q : Nat) (xq : St) (rq : Fr) (zq : Int) (oq : Option Nat) (hq : LinkAt W q xq rq zq (some l) oq) (hsq : s ≠ q) (hlq : l ≠ q) (hs : StoreAt W s cap used ns os) (hl : LinkAt W l x r sz (none) (some q)) (hsl : s ≠ l) :
    Calls Tryd.prog 28 #[.pointer (some ⟨s, 0, none⟩), .pointer (some ⟨l, 0, none⟩)] W fun e w' => (∃ v, e = .returned v) ∧ StoreAt w' s cap (wrap64 (used - sz)) (some q) os ∧ LinkAt w' l x r sz none none ∧ LinkAt w' q xq rq zq (none) oq ∧ Upd [s, l, q] W w' := by
  have hls : l ≠ s := fun e => hsl e.symm
  have hqs : q ≠ s := fun e => hsq e.symm
  have hql : q ≠ l := fun e => hlq e.symm
  have c1 : W.cell? ⟨l, 12, none⟩ = some (.pointer none) := (row_cell hl 12).trans rfl
  have c2 : W.cell? ⟨l, 13, none⟩ = some (.pointer (some ⟨q, 0, none⟩)) := (row_cell hl 13).trans rfl
  have c3 : W.cell? ⟨l, 11, none⟩ = some (.int .i64 sz) := (row_cell hl 11).trans rfl
  have c4 : W.cell? ⟨s, 2, none⟩ = some (.int .i64 used) := (row_cell hs 2).trans rfl
  have c5 : W.cell? ⟨s, 3, none⟩ = some (ptr ns) := (row_cell hs 3).trans rfl
  have c6 : W.cell? ⟨s, 4, none⟩ = some (ptr os) := (row_cell hs 4).trans rfl
  have f1 := row_free hs 3
  have f2 := row_free hs 4
  have f3 := row_free hs 2
  have f4 := row_free hl 12
  have f5 := row_free hl 13
  have c8 : W.cell? ⟨q, 12, none⟩ = some (.pointer (some ⟨l, 0, none⟩)) := (row_cell hq 12).trans rfl
  have f7 := row_free hq 12
  have gs0 := row_set hs 3 (.pointer (some ⟨q, 0, none⟩))
  have gs1 := (row_other (j := 12) (v := .pointer none) (hqs)).trans gs0
  have gs2 := (row_other (j := 12) (v := .pointer none) (hls)).trans gs1
  have gs3 := (row_other (j := 13) (v := .pointer none) (hls)).trans gs2
  have gs4 := row_set gs3 2 (.int .i64 (wrap64 (used - sz)))
  have gl0 := (row_other (j := 3) (v := .pointer (some ⟨q, 0, none⟩)) (hsl)).trans hl
  have gl1 := (row_other (j := 12) (v := .pointer none) (hql)).trans gl0
  have gl2 := row_set gl1 12 (.pointer none)
  have gl3 := row_set gl2 13 (.pointer none)
  have gl4 := (row_other (j := 2) (v := .int .i64 (wrap64 (used - sz))) (hsl)).trans gl3
  have gq0 := (row_other (j := 3) (v := .pointer (some ⟨q, 0, none⟩)) (hsq)).trans hq
  have gq1 := row_set gq0 12 (.pointer none)
  have gq2 := (row_other (j := 12) (v := .pointer none) (hlq)).trans gq1
  have gq3 := (row_other (j := 13) (v := .pointer none) (hlq)).trans gq2
  have gq4 := (row_other (j := 2) (v := .int .i64 (wrap64 (used - sz))) (hsq)).trans gq3
  have hu : Upd [s, l, q] W (((((W.setCell ⟨s, 3, none⟩ (.pointer (some ⟨q, 0, none⟩))).setCell ⟨q, 12, none⟩ (.pointer none)).setCell ⟨l, 12, none⟩ (.pointer none)).setCell ⟨l, 13, none⟩ (.pointer none)).setCell ⟨s, 2, none⟩ (.int .i64 (wrap64 (used - sz)))) := ((((((Upd.refl _ _).setCell (by simp) _).setCell (by simp) _).setCell (by simp) _).setCell (by simp) _).setCell (by simp) _)
  have Gs := Lib.hid gs4
  have Gl := Lib.hid gl4
  have Gq := Lib.hid gq4
  have HU := Lib.hid hu
  clear hu hs hl hq gs0 gs1 gs2 gs3 gs4 gl0 gl1 gl2 gl3 gl4 gq0 gq1 gq2 gq3 gq4
  go_enter Tryd.func28, Tryd.ntmps28
  go_wp2
  go_region
  go_wp2
  go_region
  go_end0
  exact ⟨⟨_, rfl⟩, Gs.out, Gl.out, Gq.out, HU.out.drew 2⟩
end Go.Proofs.YtbedkjmdckgbgaaDoor.P
/- (*Store).out: a link between two. -/
namespace Go.Proofs.YtbedkjmdckgbgaaDoor.P
open Go.RowKit Go.Shelf Go.Proofs.YtbedkjmdckgbgaaDoorW.PrintWords
set_option maxHeartbeats 2000000 in
set_option maxRecDepth 100000 in
theorem out_ss (W : World) (s l : Nat) (cap used sz : Int) (ns os : Option Nat) (x : St) (r : Fr) (p : Nat) (xp : St) (rp : Fr) (zp : Int) (np : Option Nat) (hp : LinkAt W p xp rp zp np (some l)) (hsp : s ≠ p) (hlp : l ≠ p) (q : Nat) (xq : St) (rq : Fr) (zq : Int) (oq : Option Nat) (hq : LinkAt W q xq rq zq (some l) oq) (hsq : s ≠ q) (hlq : l ≠ q) (hpq : p ≠ q) (hs : StoreAt W s cap used ns os) (hl : LinkAt W l x r sz (some p) (some q)) (hsl : s ≠ l) :
    Calls Tryd.prog 28 #[.pointer (some ⟨s, 0, none⟩), .pointer (some ⟨l, 0, none⟩)] W fun e w' => (∃ v, e = .returned v) ∧ StoreAt w' s cap (wrap64 (used - sz)) ns os ∧ LinkAt w' l x r sz none none ∧ LinkAt w' p xp rp zp np (some q) ∧ LinkAt w' q xq rq zq (some p) oq ∧ Upd [s, l, p, q] W w' := by
  have hls : l ≠ s := fun e => hsl e.symm
  have hps : p ≠ s := fun e => hsp e.symm
  have hpl : p ≠ l := fun e => hlp e.symm
  have hqs : q ≠ s := fun e => hsq e.symm
  have hql : q ≠ l := fun e => hlq e.symm
  have hqp : q ≠ p := fun e => hpq e.symm
  have c1 : W.cell? ⟨l, 12, none⟩ = some (.pointer (some ⟨p, 0, none⟩)) := (row_cell hl 12).trans rfl
  have c2 : W.cell? ⟨l, 13, none⟩ = some (.pointer (some ⟨q, 0, none⟩)) := (row_cell hl 13).trans rfl
  have c3 : W.cell? ⟨l, 11, none⟩ = some (.int .i64 sz) := (row_cell hl 11).trans rfl
  have c4 : W.cell? ⟨s, 2, none⟩ = some (.int .i64 used) := (row_cell hs 2).trans rfl
  have c5 : W.cell? ⟨s, 3, none⟩ = some (ptr ns) := (row_cell hs 3).trans rfl
  have c6 : W.cell? ⟨s, 4, none⟩ = some (ptr os) := (row_cell hs 4).trans rfl
  have f1 := row_free hs 3
  have f2 := row_free hs 4
  have f3 := row_free hs 2
  have f4 := row_free hl 12
  have f5 := row_free hl 13
  have c7 : W.cell? ⟨p, 13, none⟩ = some (.pointer (some ⟨l, 0, none⟩)) := (row_cell hp 13).trans rfl
  have f6 := row_free hp 13
  have c8 : W.cell? ⟨q, 12, none⟩ = some (.pointer (some ⟨l, 0, none⟩)) := (row_cell hq 12).trans rfl
  have f7 := row_free hq 12
  have gs0 := (row_other (j := 13) (v := .pointer (some ⟨q, 0, none⟩)) (hps)).trans hs
  have gs1 := (row_other (j := 12) (v := .pointer (some ⟨p, 0, none⟩)) (hqs)).trans gs0
  have gs2 := (row_other (j := 12) (v := .pointer none) (hls)).trans gs1
  have gs3 := (row_other (j := 13) (v := .pointer none) (hls)).trans gs2
  have gs4 := row_set gs3 2 (.int .i64 (wrap64 (used - sz)))
  have gl0 := (row_other (j := 13) (v := .pointer (some ⟨q, 0, none⟩)) (hpl)).trans hl
  have gl1 := (row_other (j := 12) (v := .pointer (some ⟨p, 0, none⟩)) (hql)).trans gl0
  have gl2 := row_set gl1 12 (.pointer none)
  have gl3 := row_set gl2 13 (.pointer none)
  have gl4 := (row_other (j := 2) (v := .int .i64 (wrap64 (used - sz))) (hsl)).trans gl3
  have gp0 := row_set hp 13 (.pointer (some ⟨q, 0, none⟩))
  have gp1 := (row_other (j := 12) (v := .pointer (some ⟨p, 0, none⟩)) (hqp)).trans gp0
  have gp2 := (row_other (j := 12) (v := .pointer none) (hlp)).trans gp1
  have gp3 := (row_other (j := 13) (v := .pointer none) (hlp)).trans gp2
  have gp4 := (row_other (j := 2) (v := .int .i64 (wrap64 (used - sz))) (hsp)).trans gp3
  have gq0 := (row_other (j := 13) (v := .pointer (some ⟨q, 0, none⟩)) (hpq)).trans hq
  have gq1 := row_set gq0 12 (.pointer (some ⟨p, 0, none⟩))
  have gq2 := (row_other (j := 12) (v := .pointer none) (hlq)).trans gq1
  have gq3 := (row_other (j := 13) (v := .pointer none) (hlq)).trans gq2
  have gq4 := (row_other (j := 2) (v := .int .i64 (wrap64 (used - sz))) (hsq)).trans gq3
  have hu : Upd [s, l, p, q] W (((((W.setCell ⟨p, 13, none⟩ (.pointer (some ⟨q, 0, none⟩))).setCell ⟨q, 12, none⟩ (.pointer (some ⟨p, 0, none⟩))).setCell ⟨l, 12, none⟩ (.pointer none)).setCell ⟨l, 13, none⟩ (.pointer none)).setCell ⟨s, 2, none⟩ (.int .i64 (wrap64 (used - sz)))) := ((((((Upd.refl _ _).setCell (by simp) _).setCell (by simp) _).setCell (by simp) _).setCell (by simp) _).setCell (by simp) _)
  have Gs := Lib.hid gs4
  have Gl := Lib.hid gl4
  have Gp := Lib.hid gp4
  have Gq := Lib.hid gq4
  have HU := Lib.hid hu
  clear hu hs hl hp hq gs0 gs1 gs2 gs3 gs4 gl0 gl1 gl2 gl3 gl4 gp0 gp1 gp2 gp3 gp4 gq0 gq1 gq2 gq3 gq4
  go_enter Tryd.func28, Tryd.ntmps28
  go_wp2
  go_region
  go_wp2
  go_region
  go_wp2
  go_region
  go_end0
  exact ⟨⟨_, rfl⟩, Gs.out, Gl.out, Gp.out, Gq.out, HU.out.drew 3⟩
end Go.Proofs.YtbedkjmdckgbgaaDoor.P
/- (*Store).in. -/
namespace Go.Proofs.YtbedkjmdckgbgaaDoor.P
open Go.RowKit Go.Shelf Go.Proofs.YtbedkjmdckgbgaaDoorW.PrintWords
set_option maxHeartbeats 2000000 in
set_option maxRecDepth 100000 in
theorem in_empty (W : World) (s l : Nat) (cap used sz : Int) (os : Option Nat) (x : St) (r : Fr) (hs : StoreAt W s cap used (none) os) (hl : LinkAt W l x r sz none none) (hsl : s ≠ l) :
    Calls Tryd.prog 29 #[.pointer (some ⟨s, 0, none⟩), .pointer (some ⟨l, 0, none⟩)] W fun e w' => (∃ v, e = .returned v) ∧ StoreAt w' s cap (wrap64 (used + sz)) (some l) (some l) ∧ LinkAt w' l x r sz none (none) ∧ Upd [s, l] W w' := by
  have hls : l ≠ s := fun e => hsl e.symm
  have c1 : W.cell? ⟨l, 13, none⟩ = some (.pointer none) := (row_cell hl 13).trans rfl
  have c3 : W.cell? ⟨l, 11, none⟩ = some (.int .i64 sz) := (row_cell hl 11).trans rfl
  have c4 : W.cell? ⟨s, 2, none⟩ = some (.int .i64 used) := (row_cell hs 2).trans rfl
  have c5 : W.cell? ⟨s, 3, none⟩ = some (.pointer none) := (row_cell hs 3).trans rfl
  have c6 : W.cell? ⟨s, 4, none⟩ = some (ptr os) := (row_cell hs 4).trans rfl
  have f1 := row_free hs 3
  have f2 := row_free hs 4
  have f3 := row_free hs 2
  have f5 := row_free hl 13
  have gs0 := (row_other (j := 13) (v := .pointer none) (hls)).trans hs
  have gs1 := row_set gs0 4 (.pointer (some ⟨l, 0, none⟩))
  have gs2 := row_set gs1 3 (.pointer (some ⟨l, 0, none⟩))
  have gs3 := row_set gs2 2 (.int .i64 (wrap64 (used + sz)))
  have gl0 := row_set hl 13 (.pointer none)
  have gl1 := (row_other (j := 4) (v := .pointer (some ⟨l, 0, none⟩)) (hsl)).trans gl0
  have gl2 := (row_other (j := 3) (v := .pointer (some ⟨l, 0, none⟩)) (hsl)).trans gl1
  have gl3 := (row_other (j := 2) (v := .int .i64 (wrap64 (used + sz))) (hsl)).trans gl2
  have hu : Upd [s, l] W ((((W.setCell ⟨l, 13, none⟩ (.pointer none)).setCell ⟨s, 4, none⟩ (.pointer (some ⟨l, 0, none⟩))).setCell ⟨s, 3, none⟩ (.pointer (some ⟨l, 0, none⟩))).setCell ⟨s, 2, none⟩ (.int .i64 (wrap64 (used + sz)))) := (((((Upd.refl _ _).setCell (by simp) _).setCell (by simp) _).setCell (by simp) _).setCell (by simp) _)
  have Gs := Lib.hid gs3
  have Gl := Lib.hid gl3
  have HU := Lib.hid hu
  clear hu hs hl gs0 gs1 gs2 gs3 gl0 gl1 gl2 gl3
  go_enter Tryd.func29, Tryd.ntmps29
  go_wp2
  go_region
  go_end0
  exact ⟨⟨_, rfl⟩, Gs.out, Gl.out, HU.out.drew 1⟩
set_option maxHeartbeats 2000000 in
set_option maxRecDepth 100000 in
theorem in_some (W : World) (s l : Nat) (cap used sz : Int) (os : Option Nat) (x : St) (r : Fr) (n : Nat) (xn : St) (rn : Fr) (zn : Int) (on : Option Nat) (hn : LinkAt W n xn rn zn none on) (hsn : s ≠ n) (hln : l ≠ n) (hs : StoreAt W s cap used (some n) os) (hl : LinkAt W l x r sz none none) (hsl : s ≠ l) :
    Calls Tryd.prog 29 #[.pointer (some ⟨s, 0, none⟩), .pointer (some ⟨l, 0, none⟩)] W fun e w' => (∃ v, e = .returned v) ∧ StoreAt w' s cap (wrap64 (used + sz)) (some l) (os) ∧ LinkAt w' l x r sz none (some n) ∧ LinkAt w' n xn rn zn (some l) on ∧ Upd [s, l, n] W w' := by
  have hls : l ≠ s := fun e => hsl e.symm
  have hns : n ≠ s := fun e => hsn e.symm
  have hnl : n ≠ l := fun e => hln e.symm
  have c1 : W.cell? ⟨l, 13, none⟩ = some (.pointer none) := (row_cell hl 13).trans rfl
  have c3 : W.cell? ⟨l, 11, none⟩ = some (.int .i64 sz) := (row_cell hl 11).trans rfl
  have c4 : W.cell? ⟨s, 2, none⟩ = some (.int .i64 used) := (row_cell hs 2).trans rfl
  have c5 : W.cell? ⟨s, 3, none⟩ = some (.pointer (some ⟨n, 0, none⟩)) := (row_cell hs 3).trans rfl
  have c6 : W.cell? ⟨s, 4, none⟩ = some (ptr os) := (row_cell hs 4).trans rfl
  have f1 := row_free hs 3
  have f2 := row_free hs 4
  have f3 := row_free hs 2
  have f5 := row_free hl 13
  have c7 : W.cell? ⟨n, 12, none⟩ = some (.pointer none) := (row_cell hn 12).trans rfl
  have f6 := row_free hn 12
  have gs0 := (row_other (j := 13) (v := .pointer (some ⟨n, 0, none⟩)) (hls)).trans hs
  have gs1 := (row_other (j := 12) (v := .pointer (some ⟨l, 0, none⟩)) (hns)).trans gs0
  have gs2 := row_set gs1 3 (.pointer (some ⟨l, 0, none⟩))
  have gs3 := row_set gs2 2 (.int .i64 (wrap64 (used + sz)))
  have gl0 := row_set hl 13 (.pointer (some ⟨n, 0, none⟩))
  have gl1 := (row_other (j := 12) (v := .pointer (some ⟨l, 0, none⟩)) (hnl)).trans gl0
  have gl2 := (row_other (j := 3) (v := .pointer (some ⟨l, 0, none⟩)) (hsl)).trans gl1
  have gl3 := (row_other (j := 2) (v := .int .i64 (wrap64 (used + sz))) (hsl)).trans gl2
  have gn0 := (row_other (j := 13) (v := .pointer (some ⟨n, 0, none⟩)) (hln)).trans hn
  have gn1 := row_set gn0 12 (.pointer (some ⟨l, 0, none⟩))
  have gn2 := (row_other (j := 3) (v := .pointer (some ⟨l, 0, none⟩)) (hsn)).trans gn1
  have gn3 := (row_other (j := 2) (v := .int .i64 (wrap64 (used + sz))) (hsn)).trans gn2
  have hu : Upd [s, l, n] W ((((W.setCell ⟨l, 13, none⟩ (.pointer (some ⟨n, 0, none⟩))).setCell ⟨n, 12, none⟩ (.pointer (some ⟨l, 0, none⟩))).setCell ⟨s, 3, none⟩ (.pointer (some ⟨l, 0, none⟩))).setCell ⟨s, 2, none⟩ (.int .i64 (wrap64 (used + sz)))) := (((((Upd.refl _ _).setCell (by simp) _).setCell (by simp) _).setCell (by simp) _).setCell (by simp) _)
  have Gs := Lib.hid gs3
  have Gl := Lib.hid gl3
  have Gn := Lib.hid gn3
  have HU := Lib.hid hu
  clear hu hs hl hn gs0 gs1 gs2 gs3 gl0 gl1 gl2 gl3 gn0 gn1 gn2 gn3
  go_enter Tryd.func29, Tryd.ntmps29
  go_wp2
  go_region
  go_end0
  exact ⟨⟨_, rfl⟩, Gs.out, Gl.out, Gn.out, HU.out.drew 1⟩
end Go.Proofs.YtbedkjmdckgbgaaDoor.P
/- The store's row: all links, the newest first; taking one out and putting one in, told on the row. -/
namespace Go.Proofs.YtbedkjmdckgbgaaDoor.P
open Go.RowKit Go.Shelf Go.Proofs.YtbedkjmdckgbgaaDoorW.PrintWords
structure Lk where
  b : Nat
  x : St
  r : Fr
  sz : Int
def atB (L : List Lk) (i : Nat) : Option Nat := (L[i]?).map (·.b)
def newerOf (L : List Lk) : Nat → Option Nat
  | 0 => none
  | i + 1 => atB L i
structure Chain (W : World) (s : Nat) (cap used : Int) (L : List Lk) : Prop where
  st : StoreAt W s cap used (atB L 0) (atB L (L.length - 1))
  lk : ∀ (i : Nat) (l : Lk), L[i]? = some l → LinkAt W l.b l.x l.r l.sz (newerOf L i) (atB L (i + 1))
  nd : ∀ (i j : Nat) (l m : Lk), L[i]? = some l → L[j]? = some m → l.b = m.b → i = j
  ns : ∀ (i : Nat) (l : Lk), L[i]? = some l → s ≠ l.b
theorem Chain.upd {W W' : World} {s : Nat} {cap used : Int} {L : List Lk} {S : List Nat} (h : Chain W s cap used L) (hu : Upd S W W') (hs : s ∉ S) (hl : ∀ (i : Nat) (l : Lk), L[i]? = some l → l.b ∉ S) : Chain W' s cap used L :=
  ⟨(hu.block s hs).trans h.st, fun i l hi => (hu.block l.b (hl i l hi)).trans (h.lk i l hi), h.nd, h.ns⟩
theorem atB_some {L : List Lk} {i : Nat} {l : Lk} (h : L[i]? = some l) : atB L i = some l.b := by simp [atB, h]
theorem atB_none {L : List Lk} {i : Nat} (h : L.length ≤ i) : atB L i = none := by simp [atB, h]
theorem erase_at (L : List Lk) (i j : Nat) : atB (L.eraseIdx i) j = if j < i then atB L j else atB L (j + 1) := by
  unfold atB
  rw [List.getElem?_eraseIdx]
  split <;> rfl
/-- What out leaves, told for every link. -/
structure OutAt (W : World) (s : Nat) (cap used : Int) (L : List Lk) (i : Nat) (l : Lk) : Prop where
  st : StoreAt W s cap (wrap64 (used - l.sz)) (if i = 0 then atB L 1 else atB L 0) (if i + 1 = L.length then newerOf L i else atB L (L.length - 1))
  me : LinkAt W l.b l.x l.r l.sz none none
  lk : ∀ (j : Nat) (m : Lk), L[j]? = some m → j ≠ i → LinkAt W m.b m.x m.r m.sz (if j = i + 1 then newerOf L i else newerOf L j) (if j + 1 = i then atB L (i + 1) else atB L (j + 1))
theorem out_at {W : World} {s : Nat} {cap used : Int} {L : List Lk} (h : Chain W s cap used L) {i : Nat} {l : Lk} (hi : L[i]? = some l) :
    Calls Tryd.prog 28 #[.pointer (some ⟨s, 0, none⟩), .pointer (some ⟨l.b, 0, none⟩)] W fun e w' => (∃ v, e = .returned v) ∧ OutAt w' s cap used L i l ∧ Upd (s :: L.map (·.b)) W w' := by
  have hlen : i < L.length := (List.getElem?_eq_some_iff.1 hi).1
  have hL := h.lk i l hi
  have mem : ∀ (j : Nat) (m : Lk), L[j]? = some m → m.b ∈ s :: L.map (·.b) := fun j m hj => List.mem_cons_of_mem _ (List.mem_map.2 ⟨m, List.mem_of_getElem? hj, rfl⟩)
  have hsl := h.ns i l hi
  have ne : ∀ (j k : Nat) (m n : Lk), L[j]? = some m → L[k]? = some n → j ≠ k → m.b ≠ n.b := fun j k m n hj hk hjk e => hjk (h.nd j k m n hj hk e)
  -- the others lie as they lay
  have rest : ∀ (w' : World) (S : List Nat), Upd S W w' → ∀ (j : Nat) (m : Lk), L[j]? = some m → m.b ∉ S → j ≠ i + 1 → j + 1 ≠ i → LinkAt w' m.b m.x m.r m.sz (if j = i + 1 then newerOf L i else newerOf L j) (if j + 1 = i then atB L (i + 1) else atB L (j + 1)) := fun w' S hu j m hj hS h1 h2 => by
    rw [if_neg h1, if_neg h2]
    exact (hu.block m.b hS).trans (h.lk j m hj)
  cases i with
  | zero =>
    cases hq : L[1]? with
    | none =>
      have h1 : L.length = 1 := by have := List.getElem?_eq_none_iff.1 hq; omega
      have e1 : atB L 1 = none := atB_none (by omega)
      have hL' : LinkAt W l.b l.x l.r l.sz none none := by have h0 : LinkAt W l.b l.x l.r l.sz none (atB L 1) := hL; rwa [e1] at h0
      refine (out_nn W s l.b cap used l.sz _ _ l.x l.r h.st hL' hsl).mono ?_
      rintro e w' ⟨hv, h2, h3, hu⟩
      refine ⟨hv, ⟨?_, h3, fun j m hj hne => ?_⟩, hu.sub (fun k hk => ?_)⟩
      · rw [if_pos rfl, if_pos (by omega), e1]; exact h2
      · have := (List.getElem?_eq_some_iff.1 hj).1; omega
      · simp only [List.mem_cons, List.mem_nil_iff, or_false] at hk
        rcases hk with rfl | rfl
        · exact .head _
        · exact mem 0 l hi
    | some q =>
      have hlt : 1 < L.length := (List.getElem?_eq_some_iff.1 hq).1
      have e1 := atB_some hq
      have hL' : LinkAt W l.b l.x l.r l.sz none (some q.b) := by rw [← e1]; exact hL
      have hQ : LinkAt W q.b q.x q.r q.sz (some l.b) (atB L 2) := by have := h.lk 1 q hq; rwa [show newerOf L 1 = some l.b from atB_some hi] at this
      refine (out_ns W s l.b cap used l.sz _ _ l.x l.r q.b q.x q.r q.sz _ hQ (h.ns 1 q hq) (ne 0 1 l q hi hq (by omega)) h.st hL' hsl).mono ?_
      rintro e w' ⟨hv, h2, h3, h4, hu⟩
      refine ⟨hv, ⟨?_, h3, fun j m hj hne => ?_⟩, hu.sub (fun k hk => ?_)⟩
      · rw [if_pos rfl, if_neg (by omega), e1]; exact h2
      · by_cases hj1 : j = 1
        · subst hj1
          obtain rfl : q = m := Option.some.inj (hq.symm.trans hj)
          rw [if_pos rfl, if_neg (by omega)]
          exact h4
        · refine rest w' _ hu j m hj ?_ (by omega) (by omega)
          simp only [List.mem_cons, List.mem_nil_iff, or_false, not_or]
          exact ⟨fun e => h.ns j m hj e.symm, ne j 0 m l hj hi (by omega), ne j 1 m q hj hq hj1⟩
      · simp only [List.mem_cons, List.mem_nil_iff, or_false] at hk
        rcases hk with rfl | rfl | rfl
        · exact .head _
        · exact mem 0 l hi
        · exact mem 1 q hq
  | succ i =>
    obtain ⟨p, hp⟩ : ∃ p, L[i]? = some p := ⟨L[i], List.getElem?_eq_getElem (by omega)⟩
    have en : newerOf L (i + 1) = some p.b := atB_some hp
    have hP : LinkAt W p.b p.x p.r p.sz (newerOf L i) (some l.b) := by have := h.lk i p hp; rwa [atB_some hi] at this
    cases hq : L[i + 1 + 1]? with
    | none =>
      have h1 : L.length = i + 1 + 1 := by have := List.getElem?_eq_none_iff.1 hq; omega
      have e1 : atB L (i + 1 + 1) = none := atB_none (by omega)
      have hL' : LinkAt W l.b l.x l.r l.sz (some p.b) none := by rw [← e1, ← en]; exact hL
      refine (out_sn W s l.b cap used l.sz _ _ l.x l.r p.b p.x p.r p.sz _ hP (h.ns i p hp) (ne (i + 1) i l p hi hp (by omega)) h.st hL' hsl).mono ?_
      rintro e w' ⟨hv, h2, h3, h4, hu⟩
      refine ⟨hv, ⟨?_, h3, fun j m hj hne => ?_⟩, hu.sub (fun k hk => ?_)⟩
      · rw [if_neg (by omega), if_pos (by omega), en]; exact h2
      · by_cases hj1 : j = i
        · subst hj1
          obtain rfl : p = m := Option.some.inj (hp.symm.trans hj)
          rw [if_neg (by omega), if_pos rfl, e1]
          exact h4
        · have := (List.getElem?_eq_some_iff.1 hj).1
          refine rest w' _ hu j m hj ?_ (by omega) (by omega)
          simp only [List.mem_cons, List.mem_nil_iff, or_false, not_or]
          exact ⟨fun e => h.ns j m hj e.symm, ne j (i + 1) m l hj hi (by omega), ne j i m p hj hp hj1⟩
      · simp only [List.mem_cons, List.mem_nil_iff, or_false] at hk
        rcases hk with rfl | rfl | rfl
        · exact .head _
        · exact mem _ l hi
        · exact mem _ p hp
    | some q =>
      have hlt : i + 1 + 1 < L.length := (List.getElem?_eq_some_iff.1 hq).1
      have e1 := atB_some hq
      have hL' : LinkAt W l.b l.x l.r l.sz (some p.b) (some q.b) := by rw [← e1, ← en]; exact hL
      have hQ : LinkAt W q.b q.x q.r q.sz (some l.b) (atB L (i + 1 + 1 + 1)) := by have := h.lk (i + 1 + 1) q hq; rwa [show newerOf L (i + 1 + 1) = some l.b from atB_some hi] at this
      refine (out_ss W s l.b cap used l.sz _ _ l.x l.r p.b p.x p.r p.sz _ hP (h.ns i p hp) (ne (i + 1) i l p hi hp (by omega)) q.b q.x q.r q.sz _ hQ (h.ns _ q hq) (ne (i + 1) (i + 1 + 1) l q hi hq (by omega)) (ne i (i + 1 + 1) p q hp hq (by omega)) h.st hL' hsl).mono ?_
      rintro e w' ⟨hv, h2, h3, h4, h5, hu⟩
      refine ⟨hv, ⟨?_, h3, fun j m hj hne => ?_⟩, hu.sub (fun k hk => ?_)⟩
      · rw [if_neg (by omega), if_neg (by omega)]; exact h2
      · by_cases hj1 : j = i
        · subst hj1
          obtain rfl : p = m := Option.some.inj (hp.symm.trans hj)
          rw [if_neg (by omega), if_pos rfl, e1]
          exact h4
        · by_cases hj2 : j = i + 1 + 1
          · subst hj2
            obtain rfl : q = m := Option.some.inj (hq.symm.trans hj)
            rw [if_pos rfl, if_neg (by omega), en]
            exact h5
          · refine rest w' _ hu j m hj ?_ hj2 (by omega)
            simp only [List.mem_cons, List.mem_nil_iff, or_false, not_or]
            exact ⟨fun e => h.ns j m hj e.symm, ne j (i + 1) m l hj hi (by omega), ne j i m p hj hp hj1, ne j (i + 1 + 1) m q hj hq hj2⟩
      · simp only [List.mem_cons, List.mem_nil_iff, or_false] at hk
        rcases hk with rfl | rfl | rfl | rfl
        · exact .head _
        · exact mem _ l hi
        · exact mem _ p hp
        · exact mem _ q hq
theorem OutAt.chain {W W' : World} {s : Nat} {cap used : Int} {L : List Lk} (hc : Chain W s cap used L) {i : Nat} {l : Lk} (hi : L[i]? = some l) (h : OutAt W' s cap used L i l) : Chain W' s cap (wrap64 (used - l.sz)) (L.eraseIdx i) := by
  have hlen : i < L.length := (List.getElem?_eq_some_iff.1 hi).1
  have hel : (L.eraseIdx i).length = L.length - 1 := List.length_eraseIdx_of_lt hlen
  have get : ∀ j, (L.eraseIdx i)[j]? = if j < i then L[j]? else L[j + 1]? := fun j => List.getElem?_eraseIdx
  have back : ∀ (j : Nat) (m : Lk), (L.eraseIdx i)[j]? = some m → ∃ k, L[k]? = some m ∧ k ≠ i ∧ k = if j < i then j else j + 1 := fun j m hj => by
    rw [get] at hj
    by_cases hlt : j < i
    · rw [if_pos hlt] at hj; exact ⟨j, hj, by omega, by rw [if_pos hlt]⟩
    · rw [if_neg hlt] at hj; exact ⟨j + 1, hj, by omega, by rw [if_neg hlt]⟩
  refine ⟨?_, ?_, ?_, ?_⟩
  · have h1 := h.st
    have e0 : atB (L.eraseIdx i) 0 = if i = 0 then atB L 1 else atB L 0 := by
      rw [erase_at]
      by_cases hz : i = 0
      · rw [if_neg (by omega), if_pos hz]
      · rw [if_pos (by omega), if_neg hz]
    have e1 : atB (L.eraseIdx i) ((L.eraseIdx i).length - 1) = if i + 1 = L.length then newerOf L i else atB L (L.length - 1) := by
      rw [hel, erase_at]
      by_cases hz : i + 1 = L.length
      · rw [if_pos hz]
        cases i with
        | zero =>
          rw [if_neg (by omega)]
          exact atB_none (by omega)
        | succ i =>
          rw [if_pos (by omega)]
          show atB L (L.length - 1 - 1) = atB L i
          rw [show L.length - 1 - 1 = i by omega]
      · rw [if_neg hz, if_neg (by omega), show L.length - 1 - 1 + 1 = L.length - 1 by omega]
    rw [e0, e1]
    exact h1
  · intro j m hj
    obtain ⟨k, hk, hki, hkj⟩ := back j m hj
    have h2 := h.lk k m hk hki
    have en : newerOf (L.eraseIdx i) j = if k = i + 1 then newerOf L i else newerOf L k := by
      cases j with
      | zero =>
        by_cases hz : 0 < i
        · rw [if_pos hz] at hkj
          subst hkj
          rw [if_neg (by omega)]
          rfl
        · rw [if_neg hz] at hkj
          obtain rfl : i = 0 := by omega
          rw [if_pos (by omega)]
          rfl
      | succ j =>
        show atB (L.eraseIdx i) j = _
        rw [erase_at]
        by_cases hz : j + 1 < i
        · rw [if_pos hz] at hkj
          subst hkj
          rw [if_pos (by omega), if_neg (by omega)]
          rfl
        · rw [if_neg hz] at hkj
          subst hkj
          by_cases hy : j < i
          · rw [if_pos hy, if_pos (by omega)]
            obtain rfl : i = j + 1 := by omega
            rfl
          · rw [if_neg hy, if_neg (by omega)]
            rfl
    have eo : atB (L.eraseIdx i) (j + 1) = if k + 1 = i then atB L (i + 1) else atB L (k + 1) := by
      rw [erase_at]
      by_cases hz : j < i
      · rw [if_pos hz] at hkj
        subst hkj
        by_cases hy : k + 1 = i
        · rw [if_neg (by omega), if_pos hy, hy]
        · rw [if_pos (by omega), if_neg hy]
      · rw [if_neg hz] at hkj
        subst hkj
        rw [if_neg (by omega), if_neg (by omega)]
    rw [en, eo]
    exact h2
  · intro j k l' m hj hk e
    obtain ⟨j', hj', _, ej⟩ := back j l' hj
    obtain ⟨k', hk', _, ek⟩ := back k m hk
    have := hc.nd j' k' l' m hj' hk' e
    split at ej <;> split at ek <;> omega
  · intro j m hj
    obtain ⟨k, hk, _, _⟩ := back j m hj
    exact hc.ns k m hk
theorem in_chain {W : World} {s : Nat} {cap used : Int} {L : List Lk} (h : Chain W s cap used L) {l : Lk} (hl : LinkAt W l.b l.x l.r l.sz none none) (hsl : s ≠ l.b) (hn : ∀ (i : Nat) (m : Lk), L[i]? = some m → l.b ≠ m.b) :
    Calls Tryd.prog 29 #[.pointer (some ⟨s, 0, none⟩), .pointer (some ⟨l.b, 0, none⟩)] W fun e w' => (∃ v, e = .returned v) ∧ Chain w' s cap (wrap64 (used + l.sz)) (l :: L) ∧ Upd (s :: l.b :: L.map (·.b)) W w' := by
  have nd : ∀ (i j : Nat) (a b : Lk), (l :: L)[i]? = some a → (l :: L)[j]? = some b → a.b = b.b → i = j := by
    intro i j a b hi hj e
    cases i with
    | zero =>
      cases j with
      | zero => rfl
      | succ j =>
        obtain rfl : l = a := by simpa using hi
        exact absurd e (hn j b (by simpa using hj))
    | succ i =>
      cases j with
      | zero =>
        obtain rfl : l = b := by simpa using hj
        exact absurd e.symm (hn i a (by simpa using hi))
      | succ j => rw [h.nd i j a b (by simpa using hi) (by simpa using hj) e]
  have ns : ∀ (i : Nat) (a : Lk), (l :: L)[i]? = some a → s ≠ a.b := by
    intro i a hi
    cases i with
    | zero => obtain rfl : l = a := by simpa using hi
              exact hsl
    | succ i => exact h.ns i a (by simpa using hi)
  cases hf : L[0]? with
  | none =>
    have h0 : L = [] := by simpa using hf
    subst h0
    refine (in_empty W s l.b cap used l.sz _ l.x l.r h.st hl hsl).mono ?_
    rintro e w' ⟨hv, h2, h3, hu⟩
    refine ⟨hv, ⟨h2, ?_, nd, ns⟩, hu.sub (by simp)⟩
    intro i a hi
    cases i with
    | zero => obtain rfl : l = a := by simpa using hi
              exact h3
    | succ i => simp at hi
  | some n =>
    have hlt : 0 < L.length := (List.getElem?_eq_some_iff.1 hf).1
    have hN := h.lk 0 n hf
    have hst := h.st
    rw [atB_some hf] at hst
    refine (in_some W s l.b cap used l.sz _ l.x l.r n.b n.x n.r n.sz _ hN (h.ns 0 n hf) (hn 0 n hf) hst hl hsl).mono ?_
    rintro e w' ⟨hv, h2, h3, h4, hu⟩
    refine ⟨hv, ⟨?_, ?_, nd, ns⟩, hu.sub ?_⟩
    · have e1 : atB (l :: L) ((l :: L).length - 1) = atB L (L.length - 1) := by
        rw [List.length_cons, Nat.add_sub_cancel]
        obtain ⟨m, hm⟩ : ∃ m, L.length = m + 1 := ⟨L.length - 1, by omega⟩
        rw [hm]
        rfl
      rw [e1]
      exact h2
    · intro i a hi
      cases i with
      | zero =>
        obtain rfl : l = a := by simpa using hi
        show LinkAt w' l.b l.x l.r l.sz none (atB L 0)
        rw [atB_some hf]
        exact h3
      | succ i =>
        have ha : L[i]? = some a := by simpa using hi
        cases i with
        | zero =>
          obtain rfl : n = a := Option.some.inj (hf.symm.trans ha)
          exact h4
        | succ i =>
          refine (hu.block a.b ?_).trans (h.lk (i + 1) a ha)
          simp only [List.mem_cons, List.mem_nil_iff, or_false, not_or]
          refine ⟨fun e => h.ns _ a ha e.symm, fun e => hn _ a ha e.symm, fun e => ?_⟩
          have := h.nd _ _ _ _ ha hf e
          omega
    · intro k hk
      simp only [List.mem_cons, List.mem_nil_iff, or_false] at hk
      rcases hk with rfl | rfl | rfl
      · exact .head _
      · exact .tail _ (.head _)
      · exact .tail _ (.tail _ (List.mem_map.2 ⟨n, List.mem_of_getElem? hf, rfl⟩))
end Go.Proofs.YtbedkjmdckgbgaaDoor.P
/- What an act on a store leaves: blocks outside a list lie as they lay; a store's state told whole. -/
namespace Go.Proofs.YtbedkjmdckgbgaaDoor.P
open Go.RowKit Go.Shelf Go.Proofs.YtbedkjmdckgbgaaDoorW.PrintWords
/-- Blocks outside a list lie as they lay; new ones may have come. -/
structure Hold (S : List Nat) (A B : World) : Prop where
  os : B.os = A.os
  tape : B.tape = A.tape
  output : B.output = A.output
  size : A.heap.size ≤ B.heap.size
  block : ∀ k, k < A.heap.size → k ∉ S → B.heap[k]? = A.heap[k]?
theorem Hold.refl (S : List Nat) (W : World) : Hold S W W := ⟨rfl, rfl, rfl, Nat.le_refl _, fun _ _ _ => rfl⟩
theorem Hold.trans {S : List Nat} {A B C : World} (h : Hold S A B) (k : Hold S B C) : Hold S A C :=
  ⟨k.os.trans h.os, k.tape.trans h.tape, k.output.trans h.output, Nat.le_trans h.size k.size, fun i hi hs => (k.block i (Nat.lt_of_lt_of_le hi h.size) hs).trans (h.block i hi hs)⟩
theorem Hold.sub {S T : List Nat} {A B : World} (h : Hold S A B) (hs : ∀ k ∈ S, k ∈ T) : Hold T A B := ⟨h.os, h.tape, h.output, h.size, fun k hk hT => h.block k hk (fun hi => hT (hs k hi))⟩
/-- New blocks may be named or not. -/
theorem Hold.old {S T : List Nat} {A B : World} (h : Hold S A B) (hs : ∀ k ∈ S, k < A.heap.size → k ∈ T) : Hold T A B := ⟨h.os, h.tape, h.output, h.size, fun k hk hT => h.block k hk (fun hi => hT (hs k hi hk))⟩
theorem Hold.of_below {S : List Nat} {A B : World} (h : Below A.heap.size A B) : Hold S A B := ⟨h.os, h.tape, h.output, h.size, fun k hk _ => h.block k hk⟩
theorem Hold.of_belowN {S : List Nat} {n : Nat} {A B : World} (h : Below n A B) (hn : A.heap.size ≤ n) : Hold S A B := ⟨h.os, h.tape, h.output, h.size, fun k hk _ => h.block k (Nat.lt_of_lt_of_le hk hn)⟩
theorem Hold.of_upd {S : List Nat} {A B : World} (h : Upd S A B) : Hold S A B := ⟨h.os, h.tape, h.output, Nat.le_of_eq h.size.symm, fun k _ hS => h.block k hS⟩
theorem Hold.below {S : List Nat} {A B : World} (h : Hold S A B) {n : Nat} (hn : n ≤ A.heap.size) (hs : ∀ k ∈ S, n ≤ k) : Below n A B :=
  ⟨h.os, h.tape, h.output, h.size, fun k hk => h.block k (by omega) (fun hi => by have := hs k hi; omega)⟩
theorem Hold.drewN {S : List Nat} {A B : World} (h : Hold S A B) (n : Nat) : Hold S A (B.drewN n) := ⟨h.os, h.tape, h.output, h.size, h.block⟩
theorem Hold.drew {S : List Nat} {A B : World} (h : Hold S A B) : Hold S A B.drew := ⟨h.os, h.tape, h.output, h.size, h.block⟩
theorem Hold.setCell {S : List Nat} {A B : World} (h : Hold S A B) {b j : Nat} (hb : A.heap.size ≤ b) (v : Value) : Hold S A (B.setCell ⟨b, j, none⟩ v) :=
  ⟨h.os, h.tape, h.output, by simpa [World.setCell] using h.size, fun k hk hS => by
    have : b ≠ k := by omega
    exact (row_other this).trans (h.block k hk hS)⟩
/-- It reads so, whatever happens to the listed blocks. -/
def Fix (S : List Nat) (W : World) (x : St) (r : Fr) : Prop := ∀ V, Hold S W V → Rd V x r
theorem Fix.rd {S : List Nat} {W : World} {x : St} {r : Fr} (h : Fix S W x r) : Rd W x r := h W (Hold.refl _ _)
theorem Fix.hold {S : List Nat} {W V : World} {x : St} {r : Fr} (h : Fix S W x r) (hv : Hold S W V) : Fix S V x r := fun U hu => h U (hv.trans hu)
theorem Fix.sub {S T : List Nat} {W : World} {x : St} {r : Fr} (h : Fix S W x r) (hs : ∀ k ∈ T, k ∈ S) : Fix T W x r := fun V hv => h V (hv.sub hs)
theorem Fix.new {S : List Nat} {W : World} {x : St} {r : Fr} (h : Fix S W x r) {b : Nat} (hb : W.heap.size ≤ b) : Fix (b :: S) W x r :=
  fun V hv => h V ⟨hv.os, hv.tape, hv.output, hv.size, fun k hk hS => hv.block k hk (by simp only [List.mem_cons, not_or]; exact ⟨by omega, hS⟩)⟩
theorem R_hold {α : Type} {d : Kd α} {e base : Nat} {S : List Nat} {w w1 : World} {v : Value} {xs : List α} (h : Kd.R d e w base (fun _ => True) v xs) (hS : ∀ k ∈ S, k < base) (hu : Hold S w w1) : Kd.R d e w1 base (fun _ => True) v xs :=
  Kd.R_mono (Kd.R_move (Kd.R_bound h) (fun k hk => hu.block k hk.2.2.1 (fun hm => by have := hS k hm; have := hk.2.1; omega))) (fun _ _ => trivial)
theorem RdO.hold {S : List Nat} {w w1 : World} {base : Nat} {x : St} {r : Fr} (h : RdO w base x r) (hS : ∀ k ∈ S, k < base) (hu : Hold S w w1) : RdO w1 base x r :=
  ⟨R_hold h.h4 hS hu, R_hold h.h5 hS hu, R_hold h.h7 hS hu, R_hold h.h8 hS hu⟩
theorem RdO.fix {S : List Nat} {w : World} {base : Nat} {x : St} {r : Fr} (h : RdO w base x r) (hS : ∀ k ∈ S, k < base) : Fix S w x r := fun _ hv => (h.hold hS hv).rd
/-- All sizes together. -/
def total (L : List Lk) : Int := (L.map (·.sz)).sum
theorem total_cons (l : Lk) (L : List Lk) : total (l :: L) = l.sz + total L := by simp [total]
theorem total_append (L M : List Lk) : total (L ++ M) = total L + total M := by simp [total]
theorem total_nonneg {L : List Lk} (h : ∀ l ∈ L, 64 ≤ l.sz) : 0 ≤ total L := by
  induction L with
  | nil => simp [total]
  | cons l L ih =>
    rw [total_cons]
    have := h l (.head _)
    have := ih (fun m hm => h m (.tail _ hm))
    omega
/-- A store's state: its links in order, what they hold, how much there is. S: blocks that others may write. -/
structure Inv (S : List Nat) (W : World) (s : Nat) (cap : Int) (L : List Lk) : Prop where
  ch : Chain W s cap (total L) L
  ss : s ∈ S
  sl : ∀ l ∈ L, l.b ∈ S
  lt : ∀ k ∈ S, k < W.heap.size
  fix : ∀ l ∈ L, Fix S W l.x l.r
  pos : ∀ l ∈ L, 64 ≤ l.sz
  most : total L ≤ cap
  cap0 : 0 ≤ cap
  cap1 : cap ≤ 65536
/-- The blocks of a store. -/
def own1 (s : Nat) (L : List Lk) : List Nat := s :: L.map (·.b)
theorem Inv.own {S : List Nat} {W : World} {s : Nat} {cap : Int} {L : List Lk} (h : Inv S W s cap L) : ∀ k ∈ own1 s L, k ∈ S := by
  intro k hk
  rcases List.mem_cons.1 hk with rfl | hk
  · exact h.ss
  · obtain ⟨l, hl, rfl⟩ := List.mem_map.1 hk
    exact h.sl l hl
theorem Chain.hold {W W' : World} {s : Nat} {cap used : Int} {L : List Lk} {S : List Nat} (h : Chain W s cap used L) (hu : Hold S W W') (hs : s ∉ S) (hl : ∀ (i : Nat) (l : Lk), L[i]? = some l → l.b ∉ S) : Chain W' s cap used L :=
  ⟨(hu.block s (Array.getElem?_eq_some_iff.1 h.st).1 hs).trans h.st, fun i l hi => (hu.block l.b (Array.getElem?_eq_some_iff.1 (h.lk i l hi)).1 (hl i l hi)).trans (h.lk i l hi), h.nd, h.ns⟩
/-- Blocks of cells lie as they lay. -/
def Same (A B : World) : Prop := ∀ (k : Nat) (cells : Array Value) (t : TypeId) (z : Nat × Nat), A.heap[k]? = some (.cells cells t z) → B.heap[k]? = A.heap[k]?
theorem Chain.same {W W' : World} {s : Nat} {cap used : Int} {L : List Lk} (h : Chain W s cap used L) (hu : Same W W') : Chain W' s cap used L :=
  ⟨(hu _ _ _ _ h.st).trans h.st, fun i l hi => (hu _ _ _ _ (h.lk i l hi)).trans (h.lk i l hi), h.nd, h.ns⟩
theorem same_grown {W W' : World} {row : Option Nat} (hg : W.grownBy W' row) (hr : ∀ r, row = some r → ∃ o : Obj, W.heap[r]? = some o ∧ o.isCells = false) : Same W W' := fun k cells t z hk => by
  refine hg.block k (Array.getElem?_eq_some_iff.1 hk).1 (fun e => ?_)
  obtain ⟨o, ho, hc⟩ := hr k e.symm
  rw [hk] at ho
  injection ho with ho
  subst ho
  cases hc
theorem hold_grown {S : List Nat} {W V V' : World} {row : Option Nat} (h : Hold S W V) (hg : V.grownBy V' row) (hr : ∀ r, row = some r → W.heap.size ≤ r) : Hold S W V' :=
  ⟨hg.os.trans h.os, hg.tape.trans h.tape, hg.output.trans h.output, Nat.le_trans h.size hg.size, fun k hk hS => (hg.block k (Nat.lt_of_lt_of_le hk h.size) (fun e => by have := hr k e.symm; omega)).trans (h.block k hk hS)⟩
/-- A Below step keeps a chain, and what was fixed. -/
theorem Inv.below {S : List Nat} {W W' : World} {s : Nat} {cap : Int} {L : List Lk} (h : Inv S W s cap L) (hb : Below W.heap.size W W') : Inv S W' s cap L :=
  ⟨h.ch.hold (S := []) (Hold.of_below hb) (by simp) (by simp), h.ss, h.sl, fun k hk => Nat.lt_of_lt_of_le (h.lt k hk) hb.size, fun l hl => (h.fix l hl).hold (Hold.of_below hb), h.pos, h.most, h.cap0, h.cap1⟩
theorem headB_at (pre rest : List Lk) : atB (pre ++ rest) pre.length = rest.head?.map (·.b) := by
  simp [atB, List.getElem?_append_right, List.head?_eq_getElem?]
theorem total_eraseIdx {L : List Lk} {i : Nat} {l : Lk} (h : L[i]? = some l) : total (L.eraseIdx i) = total L - l.sz := by
  induction L generalizing i with
  | nil => simp at h
  | cons m L ih =>
    cases i with
    | zero =>
      obtain rfl : m = l := by simpa using h
      rw [total_cons]
      show total L = _
      omega
    | succ i =>
      have h' : L[i]? = some l := by simpa using h
      show total (m :: L.eraseIdx i) = _
      rw [total_cons, total_cons, ih h']
      omega
theorem total_count {L : List Lk} (h : ∀ l ∈ L, 64 ≤ l.sz) : 64 * (L.length : Int) ≤ total L := by
  induction L with
  | nil => simp [total]
  | cons l L ih =>
    rw [total_cons, List.length_cons]
    have := h l (.head _)
    have := ih (fun m hm => h m (.tail _ hm))
    omega
theorem total_sub {L M : List Lk} (h : M.Sublist L) (hp : ∀ l ∈ L, 64 ≤ l.sz) : total M ≤ total L := by
  induction h with
  | slnil => exact Int.le_refl _
  | cons a h ih =>
    rw [total_cons]
    have := hp a (.head _)
    have := ih (fun m hm => hp m (.tail _ hm))
    omega
  | cons_cons a h ih =>
    rw [total_cons, total_cons]
    have := ih (fun m hm => hp m (.tail _ hm))
    omega
theorem keeps_below {A B : World} (h : Below A.heap.size A B) : KeepsOthers A B := ⟨h.size, fun k _ ho _ => (h.block k (Array.getElem?_eq_some_iff.1 ho).1).trans ho⟩
theorem keeps_upd {S : List Nat} {A B : World} (h : Upd S A B) (hs : ∀ k ∈ S, ∃ (cells : Array Value) (t : TypeId) (z : Nat × Nat), A.heap[k]? = some (.cells cells t z)) : KeepsOthers A B :=
  ⟨Nat.le_of_eq h.size.symm, fun k o ho hc => (h.block k (fun hm => by
    obtain ⟨cells, t, z, hk⟩ := hs k hm
    rw [ho] at hk
    injection hk with hk
    subst hk
    cases hc)).trans ho⟩
theorem Chain.cells {W : World} {s : Nat} {cap used : Int} {L : List Lk} (h : Chain W s cap used L) : ∀ k ∈ own1 s L, ∃ (cells : Array Value) (t : TypeId) (z : Nat × Nat), W.heap[k]? = some (.cells cells t z) := by
  intro k hk
  rcases List.mem_cons.1 hk with rfl | hk
  · exact ⟨_, _, _, h.st⟩
  · obtain ⟨l, hl, rfl⟩ := List.mem_map.1 hk
    obtain ⟨i, hi⟩ := List.getElem?_of_mem hl
    exact ⟨_, _, _, h.lk i l hi⟩
theorem own1_sub {s : Nat} {L M : List Lk} (h : ∀ l ∈ M, l ∈ L) : ∀ k ∈ own1 s M, k ∈ own1 s L := by
  intro k hk
  rcases List.mem_cons.1 hk with rfl | hk
  · exact .head _
  · obtain ⟨l, hl, rfl⟩ := List.mem_map.1 hk
    exact .tail _ (List.mem_map.2 ⟨l, h l hl, rfl⟩)
theorem Hold.setRow {S : List Nat} {A B : World} (h : Hold S A B) {g : Nat} (hg : A.heap.size ≤ g) (cs : Array Value) : Hold S A (B.setRow g cs) :=
  ⟨h.os, h.tape, h.output, by simpa using h.size, fun k hk hS => (setRow_other _ _ _ _ (by omega)).trans (h.block k hk hS)⟩
theorem Hold.putObj {S : List Nat} {A B : World} (h : Hold S A B) {g : Nat} (hg : A.heap.size ≤ g) (o : Obj) : Hold S A (B.putObj g o) :=
  ⟨h.os, h.tape, h.output, by simpa using h.size, fun k hk hS => (World.putObj_heap_other (by omega)).trans (h.block k hk hS)⟩
theorem RdO.lower {w : World} {base base' : Nat} {x : St} {r : Fr} (h : RdO w base x r) (hb : base' ≤ base) : RdO w base' x r :=
  ⟨Kd.R_lower h.h4 hb, Kd.R_lower h.h5 hb, Kd.R_lower h.h7 hb, Kd.R_lower h.h8 hb⟩
/-- A state told anew where the links stand in another order. -/
theorem Inv.perm {S : List Nat} {W V : World} {s : Nat} {cap : Int} {L M : List Lk} (h : Inv S W s cap L) (hm : ∀ l ∈ M, l ∈ L) (ht : total M = total L) (hc : Chain V s cap (total M) M) (hh : Hold (own1 s L) W V) : Inv S V s cap M :=
  ⟨hc, h.ss, fun l hl => h.sl l (hm l hl), fun k hk => Nat.lt_of_lt_of_le (h.lt k hk) hh.size, fun l hl => (h.fix l (hm l hl)).hold (hh.sub h.own), fun l hl => h.pos l (hm l hl), by rw [ht]; exact h.most, h.cap0, h.cap1⟩
/-- A state told anew behind acts that keep the chain. -/
theorem Inv.next {S : List Nat} {W V : World} {s : Nat} {cap : Int} {L M : List Lk} (h : Inv S W s cap L) (hm : M.Sublist L) (hc : Chain V s cap (total M) M) (hh : Hold (own1 s L) W V) : Inv S V s cap M :=
  ⟨hc, h.ss, fun l hl => h.sl l (hm.subset hl), fun k hk => Nat.lt_of_lt_of_le (h.lt k hk) hh.size, fun l hl => (h.fix l (hm.subset hl)).hold (hh.sub h.own), fun l hl => h.pos l (hm.subset hl), Int.le_trans (total_sub hm h.pos) h.most, h.cap0, h.cap1⟩
end Go.Proofs.YtbedkjmdckgbgaaDoor.P
/- A loop over a function that hands on the members of a known row, in order; every round goes on. -/
namespace Go.Proofs.YtbedkjmdckgbgaaDoor.P
open Go.RowKit
section
variable {α : Type} {F : Fence} {n : Nat} {P : Program}
/-- The iterator's word: it reads Rd, and hands on the row's members, one a round. -/
def Over (F : Fence) (n : Nat) (P : Program) (gf : Nat) (lb : Array Value) (encs : α → Array Value) (xs : List α) (Rd : List α → World → Prop) : Prop :=
  ∀ (l : Nat) (J : List α → World → Prop) (W : World), (∀ pre V, J pre V → Rd pre V) →
    (∀ pre x rest V, xs = pre ++ x :: rest → J pre V → YieldAt F (n - 1) P l (encs x) V fun e V' => e = .returned (.bool true) ∧ J (pre ++ [x]) V') →
    J [] W → CallsIn F n P gf (#[.func (.yield l) #[] #[]] ++ lb) W fun e W' => (∃ v, e = .returned v) ∧ J xs W'
/-- What the body's round owes. -/
def Goes (B : Nat) (I : World → Prop) (W : World) : Exit → Act → World → Prop
  | .normal, _, W' => KeepsFrom B W W' ∧ I W'
  | _, _, _ => False
theorem wpIn_over {g : Operand} {ps : Array Tmp} {assign body : Code} {Q : Exit → Act → World → Prop} {a : Act} {w : World}
    (hro : F.round = none) (h1 : 1 ≤ n) {gf : Nat} {lb : Array Value} (hg : a.eval g = .func (.func gf) #[] lb) (hFg : F.fn gf) (eg : ∀ args w, (callFunc gf args).run P w = .ok (.enter gf args) w)
    {encs : α → Array Value} (hps : ∀ x, (encs x).size = ps.size) {xs : List α} {Rd : List α → World → Prop} (hseq : Over F (n - 1) P gf lb encs xs Rd)
    (I : List α → World → Prop) (hRd : ∀ pre V, I pre V → Rd pre V) (hI : OwnFrom w.heap.size I) (h0 : I [] w) (a₁ : α → Act)
    (hassign : ∀ (l : Nat) (x : α) (V : World) (K : Act → World → Prop), K (a₁ x) V →
      assign.wpIn (F.inRound l) (n - 1 - 1) P (Exit.then K (fun _ _ _ => False)) { tmps := (ps.zip (encs x)).foldl (fun t (p, v) => t.setIfInBounds p v) a.tmps, defers := [] } V)
    (hbody : ∀ (l : Nat) (pre : List α) (x : α) (rest : List α) (V : World), xs = pre ++ x :: rest → I pre V → body.wpIn (F.inRound l) (n - 1 - 1) P (Goes w.heap.size (I (pre ++ [x])) V) (a₁ x) V)
    (hdone : ∀ (D : Nat) (V : World), w.heap.size ≤ D → I xs V → V.heap[D]? = some (.deferred (some [])) → Q .normal { a with defers := { target := .collected D, args := #[] } :: a.defers } V) :
    (Code.rangeFunc g ps assign body).wpIn F n P Q a w := by
  have hsz : ∀ o o' : Obj, ((w.alloc o).alloc o').heap.size = w.heap.size + 2 := fun o o' => by simp
  refine wpIn_rangeFunc fun fn hfn => ?_
  rw [hro]
  let B := w.heap.size
  let Rec : LoopState → Loop := fun st => { state := st, pending := none, fn := fn, tmps := a.tmps, params := ps, assign := assign, body := body, defers := B }
  have hrec : ∀ st, Rec st = { state := st, pending := none, fn := fn, tmps := a.tmps, params := ps, assign := assign, body := body, defers := B } := fun _ => rfl
  have start := run_enterLoop_outer (P := P) (w := w) fn a.tmps ps assign body
  let V0 := (w.alloc (.deferred (some []))).alloc (.loop (Rec .ready))
  have hl0 : V0.heap[B + 1]? = some (.loop (Rec .ready)) := by
    have h := World.alloc_heap_new (w.alloc (.deferred (some []))) (.loop (Rec .ready))
    rwa [World.size_alloc] at h
  have hd0 : V0.heap[B]? = some (.deferred (some [])) :=
    (Below.heap_alloc _ _ _ (by simp [B])).trans (World.alloc_heap_new w _)
  have hi0 : I [] V0 := hI.alloc _ (hI.alloc _ h0)
  refine ⟨B + 1, _, _, { target := .fn (.func gf) lb, args := #[.func (.yield (B + 1)) #[] #[]] }, V0, gf, #[.func (.yield (B + 1)) #[] #[]] ++ lb, V0, start, ?_, ?_, ?_, fun _ => h1, ?_⟩
  · simp only [resolve, hg]
    simp [go_sem]
    rfl
  · intro f' hf'
    simp [Target.leads] at hf'
    subst hf'
    exact hFg
  · simp [invoke, go_sem, eg]
  let J : List α → World → Prop := fun pre V => I pre V ∧ V.heap[B + 1]? = some (.loop (Rec .ready)) ∧ V.heap[B]? = some (.deferred (some []))
  refine (hseq (B + 1) J V0 (fun pre V h => hRd pre V h.1) ?_ ⟨hi0, hl0, hd0⟩).mono ?_
  · rintro pre x rest V hx ⟨hi, hl, hd⟩
    have hlt : B + 1 < V.heap.size := (Array.getElem?_eq_some_iff.1 hl).1
    have hy := run_yield (P := P) (args := encs x) hl (hps x)
    have hbegin := run_beginRound (P := P) hl rfl
    let V1 := V.putObj (B + 1) (.loop (Rec .busy))
    have hl1 : V1.heap[B + 1]? = some (.loop (Rec .busy)) := World.putObj_heap_same hlt
    have hd1 : V1.heap[B]? = some (.deferred (some [])) := (World.putObj_heap_other (by omega)).trans hd
    have hi1 : I pre V1 := hI.putObj _ hi (Nat.le_succ _) hl rfl
    refine ⟨fn, _, assign, body, hy, roundIn_of_wpIn hfn (hassign (B + 1) x V _ ⟨V1, hbegin, ?_⟩)⟩
    refine wpIn_mono (hbody (B + 1) pre x rest V1 hx hi1) ?_
    intro e a2 V2 he
    cases e with
    | normal =>
      obtain ⟨hk, hi2⟩ := he
      have hl2 := hk.same _ _ (Nat.le_succ B) hl1 rfl
      have hd2 := hk.same _ _ (Nat.le_refl B) hd1 rfl
      have hend := run_endRound (P := P) none hl2
      exact ⟨_, _, hend, rfl, hI.putObj _ hi2 (Nat.le_succ _) hl2 rfl, World.putObj_heap_same (Array.getElem?_eq_some_iff.1 hl2).1, (World.putObj_heap_other (by omega)).trans hd2⟩
    | ret => exact he.elim
    | exit id => exact he.elim
    | goto t => exact he.elim
    | panic ch => exact he.elim
    | outgrown => exact he.elim
  · rintro e V2 ⟨⟨v, rfl⟩, hi, hl, hd⟩
    have hend := run_endLoop (P := P) hl (by simp [Rec])
    exact ⟨none, _, hend, hdone B _ (Nat.le_refl _) (hI.putObj _ hi (Nat.le_succ _) hl rfl) ((World.putObj_heap_other (by omega)).trans hd)⟩
end
end Go.Proofs.YtbedkjmdckgbgaaDoor.P
/- The store's iterator over its links: what it hands on. -/
namespace Go.Proofs.YtbedkjmdckgbgaaDoor.P
open Go.RowKit Go.Shelf Go.Proofs.YtbedkjmdckgbgaaDoorW.PrintWords
attribute [local go_sem] Oper.semAt_some
def headB (L : List Lk) : Option Nat := (L.head?).map (·.b)
def encL (l : Lk) : Array Value := #[.pointer (some ⟨l.b, 0, none⟩)]
/-- What the iterator reads when pre has come. -/
structure IterRd (Bx s : Nat) (xs : List Lk) (pre : List Lk) (V : World) : Prop where
  box : V.cell? ⟨Bx, 0, none⟩ = some (.pointer (some ⟨s, 0, none⟩))
  first : pre = [] → V.cell? ⟨s, 3, none⟩ = some (ptr (headB xs))
  next : ∀ l rest, xs = pre ++ l :: rest → V.cell? ⟨l.b, 13, none⟩ = some (ptr (headB rest))
/-- How many are left behind a link. -/
def leftL (xs : List Lk) : Value → Nat
  | .pointer (some a) => (xs.dropWhile fun l => !(l.b == a.block)).length
  | _ => 0
theorem dropWhile_at : ∀ (pre : List Lk) (l : Lk) (rest : List Lk), (∀ m ∈ pre, m.b ≠ l.b) → (pre ++ l :: rest).dropWhile (fun m => !(m.b == l.b)) = l :: rest
  | [], l, rest, _ => by simp
  | m :: pre, l, rest, h => by
    have hm := h m (.head _)
    rw [List.cons_append, List.dropWhile_cons, if_pos (by simp [hm])]
    exact dropWhile_at pre l rest (fun x hx => h x (.tail _ hx))
theorem leftL_at {xs pre rest : List Lk} {l : Lk} (hx : xs = pre ++ l :: rest) (hn : (xs.map (·.b)).Nodup) : leftL xs (.pointer (some ⟨l.b, 0, none⟩)) = rest.length + 1 := by
  subst hx
  rw [List.map_append, List.map_cons, List.nodup_append] at hn
  show ((pre ++ l :: rest).dropWhile fun m => !(m.b == l.b)).length = _
  rw [dropWhile_at pre l rest (fun m hm => hn.2.2 _ (List.mem_map.2 ⟨m, hm, rfl⟩) _ (.head _))]
  rfl
theorem leftL_head {xs pre rest : List Lk} (hx : xs = pre ++ rest) (hn : (xs.map (·.b)).Nodup) : leftL xs (ptr (headB rest)) = rest.length := by
  cases rest with
  | nil => rfl
  | cons l rest => exact leftL_at hx hn
set_option maxHeartbeats 2000000 in
set_option maxRecDepth 100000 in
theorem iter_over (F : Fence) (n : Nat) (hF : F.fn 45) (hro : F.round = none) (hn1 : 1 ≤ n) (Bx s : Nat) (xs : List Lk) (hn : (xs.map (·.b)).Nodup) :
    Over F n Tryd.prog 45 #[.pointer (some ⟨Bx, 0, none⟩)] encL xs (IterRd Bx s xs) := by
  intro l J W hRd hY h0
  have r0 := hRd [] W h0
  have hb := r0.box
  have hf := r0.first rfl
  refine callsIn_of_wp Tryd.func45 rfl hF ?_ hro
  simp only [Tryd.ntmps45, List.size_toArray, List.length_cons, List.length_nil, Nat.reduceAdd, Nat.reduceSub, Array.replicate_succ, Array.replicate_zero, List.push_toArray, List.append_toArray, List.nil_append, List.cons_append]
  gi_wp2
  gi_loopw [3] (fun p wr => ∃ pre rest, xs = pre ++ rest ∧ p = ptr (headB rest) ∧ J pre wr) (fun p _ => leftL xs p)
  case atStart => exact ⟨[], xs, rfl, rfl, h0⟩
  case round =>
    clear r0 hb hf
    obtain ⟨pre, rest, hx, rfl, hJ⟩ := hrel
    cases rest with
    | nil =>
      have hp : ptr (headB []) = .pointer none := rfl
      rw [hp]
      rw [List.append_nil] at hx
      subst hx
      gi_wp2
      go_end0
      exact ⟨⟨_, rfl⟩, hJ⟩
    | cons x rest =>
      have HX := Lib.hid hx
      have hp : ptr (headB (x :: rest)) = .pointer (some ⟨x.b, 0, none⟩) := rfl
      rw [hp]
      have hx2 := (hRd pre wr hJ).next x rest hx
      obtain ⟨fn, tmps, assign, body, hy, hR⟩ := hY pre x rest wr hx hJ
      have hy2 : (Instr.yield l #[.pointer (some ⟨x.b, 0, none⟩)]).run Tryd.prog wr = .ok (.round l fn tmps assign body) wr := hy
      clear hx hy
      gi_wp2
      refine hR.mono ?_
      rintro e W3 ⟨rfl, hJ3⟩
      gi_wp2
      go_roundw
      case rel => exact ⟨pre ++ [x], rest, by rw [HX.out]; simp, rfl, hJ3⟩
      case measure =>
        show leftL xs (ptr (headB rest)) < leftL xs (.pointer (some ⟨x.b, 0, none⟩))
        rw [leftL_at HX.out hn, leftL_head (pre := pre ++ [x]) (by rw [HX.out]; simp) hn]
        omega
end Go.Proofs.YtbedkjmdckgbgaaDoor.P
/- The store's small methods: New, ok, links, Used. -/
namespace Go.Proofs.YtbedkjmdckgbgaaDoor.P
open Go.RowKit Go.Shelf Go.Proofs.YtbedkjmdckgbgaaDoorW.PrintWords
theorem ok_calls (W : World) (s : Nat) (cap used : Int) (n o : Option Nat) (hs : StoreAt W s cap used n o) :
    Calls Tryd.prog 25 #[.pointer (some ⟨s, 0, none⟩)] W fun e w' => e = .returned (.bool true) ∧ w' = W := by
  have c0 : W.cell? ⟨s, 0, none⟩ = some (.bool true) := (row_cell hs 0).trans rfl
  clear hs
  go_enter Tryd.func25, Tryd.ntmps25
  go_wp2
  go_ret
  exact ⟨rfl, rfl⟩
theorem ok_nil (W : World) :
    Calls Tryd.prog 25 #[.pointer none] W fun e w' => e = .returned (.bool false) ∧ w' = W := by
  go_enter Tryd.func25, Tryd.ntmps25
  go_wp2
  go_ret
  exact ⟨rfl, rfl⟩
theorem ok_unmade (W : World) (s : Nat) (h : W.cell? ⟨s, 0, none⟩ = some (.bool false)) :
    Calls Tryd.prog 25 #[.pointer (some ⟨s, 0, none⟩)] W fun e w' => e = .returned (.bool false) ∧ w' = W := by
  go_enter Tryd.func25, Tryd.ntmps25
  go_wp2
  go_ret
  exact ⟨rfl, rfl⟩
theorem links_calls (W : World) (s : Option Addr) :
    Calls Tryd.prog 26 #[.pointer s] W fun e w' => e = .returned (.func (.func 45) #[] #[.pointer (some ⟨W.heap.size, 0, none⟩)]) ∧ w' = W.alloc (.cells #[.pointer s] 23) := by
  go_enter Tryd.func26, Tryd.ntmps26
  go_wp2
  go_ret
  exact ⟨rfl, rfl⟩
theorem used_calls (W : World) (s : Nat) (cap used : Int) (n o : Option Nat) (hs : StoreAt W s cap used n o) :
    Calls Tryd.prog 18 #[.pointer (some ⟨s, 0, none⟩)] W fun e w' => e = .returned (.int .i64 used) ∧ w' = W := by
  have c0 : W.cell? ⟨s, 2, none⟩ = some (.int .i64 used) := (row_cell hs 2).trans rfl
  have HS := Lib.hid hs
  clear hs
  go_enter Tryd.func18, Tryd.ntmps18
  go_wp2_with fail
  refine (ok_calls _ s cap used n o HS.out).mono ?_
  rintro e w' ⟨rfl, rfl⟩
  go_wp2
  go_ret
  exact ⟨rfl, rfl⟩
theorem new_calls (W : World) (cap : Int) (h0 : 0 ≤ cap) (h1 : cap ≤ 65536) :
    Calls Tryd.prog 6 #[.int .i64 cap] W fun e w' => e = .returned (.tuple #[.pointer (some ⟨W.heap.size, 0, none⟩), .int .i64 0]) ∧ w' = W.alloc (.cells (storeC cap 0 none none) 56) := by
  have h0' : ¬ cap < 0 := by omega
  have h1' : ¬ 65536 < cap := by omega
  go_enter Tryd.func6, Tryd.ntmps6
  go_wp2
  exact bodyPost_ret (v := .tuple #[.pointer (some ⟨W.heap.size, 0, none⟩), .int .i64 0]) (by simp [results, Tryd.results6, go_sem]) rfl ⟨rfl, rfl⟩
theorem new_bad (W : World) (cap : Int) (h : cap < 0 ∨ 65536 < cap) :
    Calls Tryd.prog 6 #[.int .i64 cap] W fun e w' => e = .returned (.tuple #[.pointer none, .int .i64 1]) ∧ w' = W := by
  rcases h with h | h
  · go_enter Tryd.func6, Tryd.ntmps6
    go_wp2
    exact bodyPost_ret (v := .tuple #[.pointer none, .int .i64 1]) (by simp [results, Tryd.results6, go_sem]) rfl ⟨rfl, rfl⟩
  · have h' : ¬ cap < 0 := by omega
    go_enter Tryd.func6, Tryd.ntmps6
    go_wp2
    exact bodyPost_ret (v := .tuple #[.pointer none, .int .i64 1]) (by simp [results, Tryd.results6, go_sem]) rfl ⟨rfl, rfl⟩
end Go.Proofs.YtbedkjmdckgbgaaDoor.P
/- (*Store).drop: what holds goes, in order; all else stays. -/
namespace Go.Proofs.YtbedkjmdckgbgaaDoor.P
open Go.RowKit Go.Shelf Go.Proofs.YtbedkjmdckgbgaaDoorW.PrintWords
attribute [local go_sem] Oper.semAt_some
def boxC (W : World) (B : Nat) (v : Value) (t : Nat) : Prop := W.heap[B]? = some (.cells #[v] t (0, 0))
theorem boxC.cell {W : World} {B : Nat} {v : Value} {t : Nat} (h : boxC W B v t) : W.cell? ⟨B, 0, none⟩ = some v := (row_cell h 0).trans rfl
theorem boxC.free {W : World} {B : Nat} {v : Value} {t : Nat} (h : boxC W B v t) : W.frozen? ⟨B, 0, none⟩ = false := row_free h 0
theorem boxC.same {W W' : World} {B : Nat} {v : Value} {t : Nat} (h : boxC W B v t) (hs : Same W W') : boxC W' B v t := (hs _ _ _ _ h).trans h
theorem boxC.new (W : World) (v : Value) (t : Nat) : boxC (W.alloc (.cells #[v] t)) W.heap.size v t := World.alloc_heap_new W _
theorem boxC.below {W W' : World} {B n : Nat} {v : Value} {t : Nat} (h : boxC W B v t) (hb : Below n W W') (hn : B < n) : boxC W' B v t := (hb.block B hn).trans h
theorem boxC.alloc {W : World} {B : Nat} {v : Value} {t : Nat} (h : boxC W B v t) (o : Obj) : boxC (W.alloc o) B v t := (Below.heap_alloc W o B (Array.getElem?_eq_some_iff.1 h).1).trans h
/-- What is left when pre has been looked at. -/
def leftOf (p : Lk → Bool) (pre rest : List Lk) : List Lk := pre.filter (fun l => !(p l)) ++ rest
def goneOf (p : Lk → Bool) (pre : List Lk) : Int := ((pre.filter p).length : Int)
/-- Between two rounds of drop. -/
structure DropI (S : List Nat) (W : World) (s : Nat) (cap : Int) (L : List Lk) (p : Lk → Bool) (H : Nat) (fv : Value) (pre : List Lk) (V : World) : Prop where
  at_ : ∃ rest, L = pre ++ rest ∧ Chain V s cap (total (leftOf p pre rest)) (leftOf p pre rest)
  hold : Hold (own1 s L) W V
  b0 : boxC V H (.pointer (some ⟨s, 0, none⟩)) 23
  b1 : boxC V (H + 1) fv 83
  b2 : boxC V (H + 2) (.int .i64 (goneOf p pre)) 3
  b3 : boxC V (H + 3) (.pointer (some ⟨s, 0, none⟩)) 23
theorem DropI.ownFrom (S : List Nat) (W : World) (s : Nat) (cap : Int) (L : List Lk) (p : Lk → Bool) (H : Nat) (fv : Value) (B : Nat) (hB : W.heap.size ≤ B) : OwnFrom B (DropI S W s cap L p H fv) := by
  intro pre V V' row h hg hr
  have hs := same_grown hg (fun r e => (hr r e).2)
  obtain ⟨rest, hx, hc⟩ := h.at_
  exact ⟨⟨rest, hx, hc.same hs⟩, hold_grown h.hold hg (fun r e => Nat.le_trans hB (hr r e).1), h.b0.same hs, h.b1.same hs, h.b2.same hs, h.b3.same hs⟩
theorem leftOf_at (p : Lk → Bool) (pre rest : List Lk) (l : Lk) : (leftOf p pre (l :: rest))[(pre.filter fun l => !(p l)).length]? = some l := by simp [leftOf]
theorem leftOf_no (p : Lk → Bool) (pre rest : List Lk) (l : Lk) (h : p l = false) : leftOf p (pre ++ [l]) rest = leftOf p pre (l :: rest) := by simp [leftOf, List.filter_append, h]
theorem leftOf_yes (p : Lk → Bool) (pre rest : List Lk) (l : Lk) (h : p l = true) : leftOf p (pre ++ [l]) rest = (leftOf p pre (l :: rest)).eraseIdx (pre.filter fun l => !(p l)).length := by
  simp [leftOf, List.filter_append, h, List.eraseIdx_append_of_length_le]
theorem goneOf_no (p : Lk → Bool) (pre : List Lk) (l : Lk) (h : p l = false) : goneOf p (pre ++ [l]) = goneOf p pre := by simp [goneOf, List.filter_append, h]
theorem goneOf_yes (p : Lk → Bool) (pre : List Lk) (l : Lk) (h : p l = true) : goneOf p (pre ++ [l]) = goneOf p pre + 1 := by simp [goneOf, List.filter_append, h]
theorem DropI.iter {S : List Nat} {W : World} {s : Nat} {cap : Int} {L : List Lk} {p : Lk → Bool} {H : Nat} {fv : Value} {pre : List Lk} {V : World} (h : DropI S W s cap L p H fv pre V) : IterRd (H + 3) s L pre V := by
  obtain ⟨rest, hx, hc⟩ := h.at_
  refine ⟨h.b3.cell, fun hp => ?_, fun l rest' hx' => ?_⟩
  · subst hp
    have h1 := hc.st
    have e0 : atB (leftOf p [] rest) 0 = headB L := by rw [hx]; simp [leftOf, atB, headB, List.head?_eq_getElem?]
    have h2 := (row_cell h1 3)
    rw [e0] at h2
    exact h2.trans rfl
  · have e : rest = l :: rest' := List.append_cancel_left (hx.symm.trans hx')
    subst e
    have hl := hc.lk _ l (leftOf_at p pre rest' l)
    have e1 : atB (leftOf p pre (l :: rest')) ((pre.filter fun l => !(p l)).length + 1) = headB rest' := by
      have := headB_at (pre.filter (fun l => !(p l)) ++ [l]) rest'
      rw [List.length_append, List.append_assoc] at this
      exact this
    have h2 := row_cell hl 13
    rw [e1] at h2
    exact h2.trans rfl
theorem Inv.ltW {S : List Nat} {W : World} {s : Nat} {cap : Int} {L : List Lk} (h : Inv S W s cap L) : ∀ k ∈ own1 s L, k < W.heap.size := fun k hk => h.lt k (h.own k hk)
theorem DropI.below {S : List Nat} {W : World} {s : Nat} {cap : Int} {L : List Lk} {p : Lk → Bool} {H : Nat} {fv : Value} {pre : List Lk} {V w1 : World} (h : DropI S W s cap L p H fv pre V) (hb : Below V.heap.size V w1) : DropI S W s cap L p H fv pre w1 := by
  obtain ⟨rest, hx, hc⟩ := h.at_
  have lt : ∀ {B : Nat} {v : Value} {t : Nat}, boxC V B v t → B < V.heap.size := fun h => (Array.getElem?_eq_some_iff.1 h).1
  exact ⟨⟨rest, hx, hc.hold (S := []) (Hold.of_below hb) (by simp) (by simp)⟩, h.hold.trans (Hold.of_below hb), h.b0.below hb (lt h.b0), h.b1.below hb (lt h.b1), h.b2.below hb (lt h.b2), h.b3.below hb (lt h.b3)⟩
theorem drop_no {S : List Nat} {W : World} {s : Nat} {cap : Int} {L : List Lk} {p : Lk → Bool} {H : Nat} {fv : Value} {pre rest : List Lk} {l : Lk} {V w1 : World} (h : DropI S W s cap L p H fv pre V) (hx : L = pre ++ l :: rest) (hq : p l = false) (hb : Below V.heap.size V w1) (B : Nat) :
    KeepsFrom B V w1 ∧ DropI S W s cap L p H fv (pre ++ [l]) w1 := by
  have h1 := h.below hb
  obtain ⟨rest', hx', hc⟩ := h1.at_
  obtain rfl : rest' = l :: rest := List.append_cancel_left (hx'.symm.trans hx)
  refine ⟨(keeps_below hb).from _, ⟨⟨rest, by rw [hx]; simp, ?_⟩, h1.hold, h1.b0, h1.b1, ?_, h1.b3⟩⟩
  · rw [leftOf_no p pre rest l hq]; exact hc
  · rw [goneOf_no p pre l hq]; exact h1.b2
theorem box_upd {S : List Nat} {n : Nat} {A B : World} {b : Nat} {v : Value} {t : Nat} (h : boxC A b v t) (hu : Upd S A B) (hS : ∀ k ∈ S, k < n) (hb : n ≤ b) : boxC B b v t :=
  (hu.block b (fun hm => by have := hS b hm; omega)).trans h
theorem leftOf_mem {L pre rest : List Lk} {l : Lk} {p : Lk → Bool} (hx : L = pre ++ l :: rest) : ∀ m ∈ leftOf p pre (l :: rest), m ∈ L := by
  intro m hm
  rw [hx]
  rcases List.mem_append.1 hm with hm | hm
  · exact List.mem_append_left _ (List.mem_filter.1 hm).1
  · exact List.mem_append_right _ hm
theorem leftOf_sub {L pre rest : List Lk} {p : Lk → Bool} (hx : L = pre ++ rest) : (leftOf p pre rest).Sublist L := by
  rw [hx]
  exact List.filter_sublist.append (List.Sublist.refl _)
theorem drop_yes {S : List Nat} {W : World} {s : Nat} {cap : Int} {L : List Lk} {p : Lk → Bool} {H : Nat} {fv : Value} {pre rest : List Lk} {l : Lk} {V w1 w2 : World} (hI : Inv S W s cap L) (hH : W.heap.size ≤ H) (h : DropI S W s cap L p H fv pre V) (hx : L = pre ++ l :: rest) (hq : p l = true) (hb : Below V.heap.size V w1)
    (ho : OutAt w2 s cap (total (leftOf p pre (l :: rest))) (leftOf p pre (l :: rest)) (pre.filter fun l => !(p l)).length l) (hu : Upd (own1 s (leftOf p pre (l :: rest))) w1 w2) (B : Nat) :
    KeepsFrom B V (w2.setCell ⟨H + 2, 0, none⟩ (.int .i64 (goneOf p pre + 1))) ∧ DropI S W s cap L p H fv (pre ++ [l]) (w2.setCell ⟨H + 2, 0, none⟩ (.int .i64 (goneOf p pre + 1))) := by
  have h1 := h.below hb
  obtain ⟨rest', hx', hc⟩ := h1.at_
  obtain rfl : rest' = l :: rest := List.append_cancel_left (hx'.symm.trans hx)
  have hlt : ∀ k ∈ own1 s (leftOf p pre (l :: rest)), k < W.heap.size := fun k hk => hI.ltW k (own1_sub (leftOf_mem hx) k hk)
  have hc2 := OutAt.chain hc (leftOf_at p pre rest l) ho
  rw [← leftOf_yes p pre rest l hq] at hc2
  have hx2 : L = (pre ++ [l]) ++ rest := by rw [hx]; simp
  have ht : total (leftOf p (pre ++ [l]) rest) = total (leftOf p pre (l :: rest)) - l.sz := by rw [leftOf_yes p pre rest l hq, total_eraseIdx (leftOf_at p pre rest l)]
  have hp2 : ∀ m ∈ leftOf p (pre ++ [l]) rest, 64 ≤ m.sz := fun m hm => hI.pos m ((leftOf_sub hx2).subset hm)
  have h0 := total_nonneg hp2
  have h9 := total_sub (leftOf_sub (p := p) hx2) hI.pos
  have hm := hI.most
  have hm1 := hI.cap1
  have hw : wrap64 (total (leftOf p pre (l :: rest)) - l.sz) = total (leftOf p (pre ++ [l]) rest) := by rw [← ht]; unfold wrap64; omega
  rw [hw] at hc2
  have hold2 : Hold (own1 s L) w1 w2 := (Hold.of_upd hu).sub (own1_sub (leftOf_mem hx))
  have b2 := box_upd h1.b2 hu hlt (by omega)
  have ne : ∀ k ∈ own1 s L, k ≠ H + 2 := fun k hk => by have := hI.ltW k hk; omega
  refine ⟨?_, ⟨⟨rest, hx2, ?_⟩, ?_, ?_, ?_, ?_, ?_⟩⟩
  · exact (((keeps_below hb).trans (keeps_upd hu hc.cells)).trans (KeepsOthers.setCell _ _ _)).from _
  · refine ⟨(row_other (fun e => ne s (.head _) e.symm)).trans hc2.st, fun i m hi => (row_other (fun e => ne m.b (.tail _ (List.mem_map.2 ⟨m, (leftOf_sub hx2).subset (List.mem_of_getElem? hi), rfl⟩)) e.symm)).trans (hc2.lk i m hi), hc2.nd, hc2.ns⟩
  · exact (h1.hold.trans hold2).setCell (by omega) _
  · exact (row_other (by omega)).trans (box_upd h1.b0 hu hlt hH)
  · exact (row_other (by omega)).trans (box_upd h1.b1 hu hlt (by omega))
  · rw [goneOf_yes p pre l hq]
    exact row_set b2 0 _
  · exact (row_other (by omega)).trans (box_upd h1.b3 hu hlt (by omega))
theorem nodup_of {W : World} {s : Nat} {cap used : Int} {L : List Lk} (h : Chain W s cap used L) : (L.map (·.b)).Nodup := by
  rw [List.nodup_iff_pairwise_ne, List.pairwise_iff_getElem]
  intro i j hi hj hlt
  rw [List.length_map] at hi hj
  rw [List.getElem_map, List.getElem_map]
  intro e
  have := h.nd i j L[i] L[j] (List.getElem?_eq_getElem hi) (List.getElem?_eq_getElem hj) e
  omega
set_option maxHeartbeats 4000000 in
set_option maxRecDepth 100000 in
theorem drop_calls (S : List Nat) (W : World) (s : Nat) (cap : Int) (L : List Lk) (hI : Inv S W s cap L) (gh : Nat) (eg : ∀ args w, (callFunc gh args).run Tryd.prog w = .ok (.enter gh args) w) (caps : Array Value) (p : Lk → Bool)
    (hp : ∀ V l, l ∈ L → Hold (own1 s L) W V → Calls Tryd.prog gh (#[.agg (stC l.x l.r)] ++ caps) V fun e w' => e = .returned (.bool (p l)) ∧ Below V.heap.size V w') :
    Calls Tryd.prog 39 #[.pointer (some ⟨s, 0, none⟩), .func (.func gh) #[] caps] W fun e w' => e = .returned (.int .i64 (goneOf p L)) ∧ Inv S w' s cap (L.filter fun l => !(p l)) ∧ Hold (own1 s L) W w' := by
  refine (callsIn_wide (n := 9)).1 ?_
  have HI := Lib.hid hI
  have HP := Lib.hid hp
  clear hI hp
  refine callsIn_of_wp_marks Tryd.func39 rfl trivial ?_ rfl
  simp only [Tryd.ntmps39, List.size_toArray, List.length_cons, List.length_nil, Nat.reduceAdd, Nat.reduceSub, Array.replicate_succ, Array.replicate_zero, List.push_toArray, List.append_toArray, List.nil_append, List.cons_append]
  gi_wp2_with (refine ⟨trivial, ?_⟩; gi_at_call 26; refine (callsIn_wide.2 (links_calls _ _)).mono ?_; rintro e w' ⟨rfl, rfl⟩)
  obtain ⟨W4, hW4⟩ : ∃ W4, ((((W.alloc (.cells #[.pointer (some ⟨s, 0, none⟩)] 23)).alloc (.cells #[.func (.func gh) #[] caps] 83)).alloc (.cells #[.int .i64 0] 3)).alloc (.cells #[.pointer (some ⟨s, 0, none⟩)] 23)) = W4 := ⟨_, rfl⟩
  have b0 : boxC W4 W.heap.size (.pointer (some ⟨s, 0, none⟩)) 23 := by rw [← hW4]; exact (((boxC.new W _ _).alloc _).alloc _).alloc _
  have b1 : boxC W4 (W.heap.size + 1) (.func (.func gh) #[] caps) 83 := by
    rw [← hW4]
    have h := boxC.new (W.alloc (.cells #[.pointer (some ⟨s, 0, none⟩)] 23)) (.func (.func gh) #[] caps) 83
    rw [World.size_alloc] at h
    exact (h.alloc _).alloc _
  have b2 : boxC W4 (W.heap.size + 2) (.int .i64 0) 3 := by
    rw [← hW4]
    have h := boxC.new ((W.alloc (.cells #[.pointer (some ⟨s, 0, none⟩)] 23)).alloc (.cells #[.func (.func gh) #[] caps] 83)) (.int .i64 0) 3
    rw [World.size_alloc, World.size_alloc] at h
    exact h.alloc _
  have b3 : boxC W4 (W.heap.size + 3) (.pointer (some ⟨s, 0, none⟩)) 23 := by
    rw [← hW4]
    have h := boxC.new (((W.alloc (.cells #[.pointer (some ⟨s, 0, none⟩)] 23)).alloc (.cells #[.func (.func gh) #[] caps] 83)).alloc (.cells #[.int .i64 0] 3)) (.pointer (some ⟨s, 0, none⟩)) 23
    rw [World.size_alloc, World.size_alloc, World.size_alloc] at h
    exact h
  have hb4 : Below W.heap.size W W4 := by rw [← hW4]; exact below_alloc (below_alloc (below_alloc (below_alloc (Below.refl _ _) _) _) _) _
  have hz4 : W4.heap.size = W.heap.size + 4 := by rw [← hW4]; simp
  rw [hW4]
  have HW4 := Lib.hid hW4
  have HZ4 := Lib.hid hz4
  clear hW4 hz4
  have h0 : DropI S W s cap L p W.heap.size (.func (.func gh) #[] caps) [] W4 := by
    refine ⟨⟨L, rfl, ?_⟩, Hold.of_below hb4, b0, b1, b2, b3⟩
    exact HI.out.ch.hold (S := []) (Hold.of_below hb4) (by simp) (by simp)
  have H0 := Lib.hid h0
  clear b0 b1 b2 b3 hb4 h0
  have hnd : (L.map (·.b)).Nodup := nodup_of HI.out.ch
  have HND := Lib.hid hnd
  clear hnd
  refine wpIn_over rfl (by omega) (gf := 45) (lb := #[.pointer (some ⟨W.heap.size + 1 + 1 + 1, 0, none⟩)]) rfl trivial (enters_of Tryd.func45 (by kernel_rfl) rfl) (encs := encL) (fun _ => rfl) (xs := L) (iter_over Fence.wide _ trivial rfl (by omega) (W.heap.size + 3) s L HND.out) (DropI S W s cap L p W.heap.size (.func (.func gh) #[] caps)) (fun pre V h => h.iter) (DropI.ownFrom S W s cap L p W.heap.size _ W4.heap.size (by rw [HZ4.out]; omega)) H0.out (fun x => { tmps := #[.pointer (some ⟨s, 0, none⟩), .func (.func gh) #[] caps, .pointer (some ⟨W.heap.size, 0, none⟩), .pointer (some ⟨W.heap.size + 1, 0, none⟩), .int .i64 0, .pointer (some ⟨W.heap.size + 1 + 1, 0, none⟩), .pointer (some ⟨x.b, 0, none⟩), .pointer (some ⟨s, 0, none⟩), .func (.func 45) #[] #[.pointer (some ⟨W.heap.size + 1 + 1 + 1, 0, none⟩)], .pointer (some ⟨x.b, 0, none⟩), undef, undef, undef, undef, undef, undef, undef, undef, undef, undef, undef, undef], defers := [] }) ?assign ?body ?done
  case assign =>
    intro l x V K hK
    dsimp only [encL]
    gi_wp2
    exact hK
  case body =>
    intro ll pre l rest V hx hi
    obtain ⟨rest', hx', hc⟩ := hi.at_
    obtain rfl : rest' = l :: rest := List.append_cancel_left (hx'.symm.trans hx)
    clear hx'
    have hmem : l ∈ L := by rw [hx]; simp
    have hsub : ∀ m ∈ leftOf p pre (l :: rest), m ∈ L := by
      intro m hm
      rw [hx]
      rcases List.mem_append.1 hm with hm | hm
      · exact List.mem_append_left _ (List.mem_filter.1 hm).1
      · exact List.mem_append_right _ hm
    have hat := leftOf_at p pre rest l
    have hL : LinkAt V l.b l.x l.r l.sz _ _ := hc.lk _ l hat
    have hcnt : goneOf p pre ≤ 65536 := by
      have h1 := total_count HI.out.pos
      have h2 := HI.out.most
      have h3 := HI.out.cap1
      have h4 : ((pre.filter p).length : Int) ≤ pre.length := by exact_mod_cast List.length_filter_le p pre
      have h5 : (pre.length : Int) ≤ L.length := by rw [hx]; simp; omega
      unfold goneOf
      omega
    have hcnt0 : 0 ≤ goneOf p pre := by unfold goneOf; omega
    have cb1 := hi.b1.cell
    have c0 : V.cell? ⟨l.b, 0, none⟩ = some (.string l.x.meth) := (row_cell hL 0).trans rfl
    have c1 : V.cell? ⟨l.b, 1, none⟩ = some (.string l.x.sch) := (row_cell hL 1).trans rfl
    have c2 : V.cell? ⟨l.b, 2, none⟩ = some (.string l.x.host) := (row_cell hL 2).trans rfl
    have c3 : V.cell? ⟨l.b, 3, none⟩ = some (.string l.x.path) := (row_cell hL 3).trans rfl
    have c4 : V.cell? ⟨l.b, 4, none⟩ = some (.slice l.r.a4 l.x.qf.length l.r.c4) := (row_cell hL 4).trans rfl
    have c5 : V.cell? ⟨l.b, 5, none⟩ = some (.slice l.r.a5 l.x.qb.length l.r.c5) := (row_cell hL 5).trans rfl
    have c6 : V.cell? ⟨l.b, 6, none⟩ = some (.int .i64 l.x.stat) := (row_cell hL 6).trans rfl
    have c7 : V.cell? ⟨l.b, 7, none⟩ = some (.slice l.r.a7 l.x.sf.length l.r.c7) := (row_cell hL 7).trans rfl
    have c8 : V.cell? ⟨l.b, 8, none⟩ = some (.slice l.r.a8 l.x.sb.length l.r.c8) := (row_cell hL 8).trans rfl
    have c9 : V.cell? ⟨l.b, 9, none⟩ = some (.int .i64 l.x.asked) := (row_cell hL 9).trans rfl
    have c10 : V.cell? ⟨l.b, 10, none⟩ = some (.int .i64 l.x.came) := (row_cell hL 10).trans rfl
    have HX := Lib.hid hx
    have HC := Lib.hid hc
    have HIV := Lib.hid hi
    have HM := Lib.hid hmem
    have HSUB := Lib.hid hsub
    have HAT := Lib.hid hat
    have hcall := HP.out V.drew l hmem hi.hold.drew
    have hmx : Tryd.prog.follows .mixedOrders = true := by kernel_rfl
    clear hx hc hi hmem hsub hat hL
    cases hq : p l with
    | false =>
      rw [hq] at hcall
      have HCALL := Lib.hid hcall
      have HQ := Lib.hid hq
      clear hcall hq
      gi_wp2
      gi_region_with_o (refine ⟨trivial, ?_⟩; gi_at_fn gh; refine (CallsIn.inRound ll (callsIn_wide.2 HCALL.out)).mono ?_; rintro e w1 ⟨rfl, hb1⟩)
      all_goals gi_wp2
      all_goals exact drop_no HIV.out HX.out HQ.out ⟨hb1.os, hb1.tape, hb1.output, hb1.size, hb1.block⟩ _
    | true =>
      rw [hq] at hcall
      have HCALL := Lib.hid hcall
      have HQ := Lib.hid hq
      clear hcall hq
      gi_wp2
      gi_region_with_o (refine ⟨trivial, ?_⟩; gi_at_fn gh; refine (CallsIn.inRound ll (callsIn_wide.2 HCALL.out)).mono ?_; rintro e w1 ⟨rfl, hb1⟩; have hb1 : Below V.heap.size V w1 := ⟨hb1.os, hb1.tape, hb1.output, hb1.size, hb1.block⟩; have HI1 := Lib.hid (HIV.out.below hb1); have HC1 := Lib.hid (HC.out.hold (S := []) (Hold.of_below hb1) (by simp) (by simp)); have HB1 := Lib.hid hb1; clear hb1; have d0 := HI1.out.b0.cell)
      all_goals gi_wp2_with (refine ⟨trivial, ?_⟩; gi_at_call 28; refine (CallsIn.inRound ll (callsIn_wide.2 (out_at HC1.out HAT.out))).mono ?_; rintro e w2 ⟨⟨v, rfl⟩, ho, hu⟩; have d2 := box_upd HI1.out.b2 hu (fun k hk => HI.out.ltW k (own1_sub HSUB.out k hk)) (Nat.le_add_right _ _); have d2c := d2.cell; have d2f := d2.free; have HO := Lib.hid ho; have HU := Lib.hid hu; clear ho hu d2)
      all_goals exact drop_yes HI.out (Nat.le_refl _) HIV.out HX.out HQ.out HB1.out HO.out HU.out _
  case done =>
    intro D V hD hi hdef
    have c2 := hi.b2.cell
    gi_wp2
    refine ⟨by simp, .inl ⟨_, _, rfl, run_takeDeferred hdef, ?_⟩⟩
    have hi2 : DropI S W s cap L p W.heap.size (.func (.func gh) #[] caps) L (V.putObj D (.deferred none)) := (DropI.ownFrom S W s cap L p W.heap.size _ W4.heap.size (by rw [HZ4.out]; omega)).putObj _ hi hD hdef rfl
    obtain ⟨rest, hr, hc⟩ := hi2.at_
    obtain rfl : rest = [] := by simpa using hr
    simp only [leftOf, List.append_nil] at hc
    exact ⟨_, results_tmp rfl _ _ _, rfl, HI.out.next List.filter_sublist hc hi2.hold, hi2.hold⟩
end Go.Proofs.YtbedkjmdckgbgaaDoor.P
/- slices.IndexFunc and slices.ContainsFunc at []string and a function value that may lay blocks of its own: what they answer, if each call of it at an element of the slice answers 'p' of it and turns nothing that was there. -/
namespace Go.Proofs.YtbedkjmdckgbgaaDoor.P
open Go.RowKit Go.Proofs.YtbedkjmdckgbgaaDoorW.PrintWords
/-- A new block of one cell. -/
theorem newCell (w : World) (x : Value) (t : TypeId) : (w.alloc (.cells #[x] t)).cell? ⟨w.heap.size, 0, none⟩ = some x := by
  have h := cell_one_new w x t 0 x rfl
  rwa [add_plain] at h
/-- The first index from k on at which p holds, of so many elements to come; -1. -/
def idxFrom (p : ByteArray → Bool) : Nat → List ByteArray → Int
  | _, [] => -1
  | k, x :: r => if p x then (k : Int) else idxFrom p (k + 1) r
theorem idxFrom_drop (p : ByteArray → Bool) (xs : List ByteArray) (k : Nat) (h : k < xs.length) :
    idxFrom p k (xs.drop k) = if p (xs.getD k ByteArray.empty) then (k : Int) else idxFrom p (k + 1) (xs.drop (k + 1)) := by
  rw [List.drop_eq_getElem_cons h, idxFrom]
  simp [List.getD_eq_getElem?_getD, List.getElem?_eq_getElem h]
theorem idxFrom_any (p : ByteArray → Bool) (xs : List ByteArray) (k : Nat) : decide (0 ≤ idxFrom p k xs) = xs.any p := by
  induction xs generalizing k with
  | nil => rfl
  | cons x r ih =>
    rw [idxFrom, List.any_cons, ← ih (k + 1)]
    cases p x <;> simp
/-- What is asked of the function value. -/
def GivesOn (g : Nat) (lb : Array Value) (p : ByteArray → Bool) (xs : List ByteArray) (w : World) : Prop :=
  ∀ (W : World) (x : ByteArray), x ∈ xs → Below w.heap.size w W → Calls Tryd.prog g (#[.string x] ++ lb) W fun e w' => e = .returned (.bool (p x)) ∧ Below W.heap.size W w'
set_option maxHeartbeats 800000 in
set_option maxRecDepth 100000 in
theorem indexFunc_any (g : Nat) (lb : Array Value) (p : ByteArray → Bool) (eg : ∀ args w, (callFunc g args).run Tryd.prog w = .ok (.enter g args) w) (A : Option Addr) (c : Nat) (xs : List ByteArray) (w : World)
    (hr : Kd.C Kd.string w A xs.length xs) (hp : GivesOn g lb p xs w) :
    Calls Tryd.prog 63 #[.slice A xs.length c, .func (.func g) #[] lb] w fun e w' => e = .returned (.int .i64 (idxFrom p 0 xs)) ∧ Below w.heap.size w w' := by
  have hrd := Kd.reads_of_C (enc := Value.string) (d := ByteArray.empty) (h1 := fun _ => rfl) hr
  have hn : xs.length ≤ 9223372036854775807 := hrd.2.1
  have HR := Lib.hid hrd
  have HP := Lib.hid hp
  clear hr hrd hp
  go_enter Tryd.func63, Tryd.ntmps63
  go_wp2
  go_loopw [8] (fun i wr => ∃ k : Nat, k ≤ xs.length ∧ i = .int .i64 k ∧ Hid (Below w.heap.size w wr) ∧ Hid (idxFrom p 0 xs = idxFrom p k (xs.drop k))) (fun i _ => xs.length - (intOf i).toNat)
  case atStart => exact ⟨0, Nat.zero_le _, rfl, Lib.hid (Below.refl _ _), Lib.hid (by simp)⟩
  case round =>
    obtain ⟨k, hk, rfl, hb, hx⟩ := hrel
    by_cases hlt : k < xs.length
    · have hltz : (k : Int) < (xs.length : Int) := by omega
      obtain ⟨ad, rfl, hcell⟩ := (HR.out.below hb.out).2.2 (by omega)
      have l2 := hcell k hlt
      clear hcell
      have hxd := idxFrom_drop p xs k hlt
      have hmem : xs.getD k ByteArray.empty ∈ xs := by
        simp [List.getD_eq_getElem?_getD, List.getElem?_eq_getElem hlt]
      generalize hy : xs.getD k ByteArray.empty = y at l2 hxd hmem
      have hcall := HP.out wr y hmem hb.out
      have HX := Lib.hid hxd
      clear hy hxd hmem
      cases hq : p y with
      | true =>
        rw [hq] at hcall
        have HQ := Lib.hid hq
        have HC := Lib.hid hcall
        clear hq hcall
        go_wp2_with (go_at_fn g; refine HC.out.mono ?_; rintro e w' ⟨rfl, hb'⟩; have HB := Lib.hid hb'; clear hb')
        go_ret
        refine ⟨?_, below_then hb.out hb.out.size HB.out⟩
        rw [hx.out, HX.out, if_pos HQ.out]; rfl
      | false =>
        rw [hq] at hcall
        have HQ := Lib.hid hq
        have HC := Lib.hid hcall
        clear hq hcall
        go_wp2_with (go_at_fn g; refine HC.out.mono ?_; rintro e w' ⟨rfl, hb'⟩; have HB := Lib.hid hb'; clear hb')
        go_roundw
        case measure => simp [intOf]; omega
        case rel =>
          exact ⟨k + 1, by omega, by go_num, Lib.hid (below_then hb.out hb.out.size HB.out), Lib.hid (by rw [hx.out, HX.out, if_neg (by rw [HQ.out]; simp)])⟩
    · have hltz : ¬ (k : Int) < (xs.length : Int) := by omega
      obtain rfl : k = xs.length := by omega
      go_wp2
      go_ret
      refine ⟨?_, hb.out⟩
      rw [hx.out, List.drop_length]
      rfl
set_option maxHeartbeats 800000 in
set_option maxRecDepth 100000 in
theorem containsFunc_any (g : Nat) (lb : Array Value) (p : ByteArray → Bool) (eg : ∀ args w, (callFunc g args).run Tryd.prog w = .ok (.enter g args) w) (A : Option Addr) (c : Nat) (xs : List ByteArray) (w : World)
    (hr : Kd.C Kd.string w A xs.length xs) (hp : GivesOn g lb p xs w) :
    Calls Tryd.prog 47 #[.slice A xs.length c, .func (.func g) #[] lb] w fun e w' => e = .returned (.bool (xs.any p)) ∧ Below w.heap.size w w' := by
  have hc := indexFunc_any g lb p eg A c xs w hr hp
  rw [← idxFrom_any p xs 0]
  generalize idxFrom p 0 xs = z at hc ⊢
  have HC := Lib.hid hc
  clear hc hr hp eg
  go_enter Tryd.func47, Tryd.ntmps47
  go_wp2_with (go_at_call 63; refine HC.out.mono ?_; rintro e w' ⟨rfl, hb'⟩)
  go_ret
  exact ⟨rfl, hb'⟩
end Go.Proofs.YtbedkjmdckgbgaaDoor.P
/- slices.Equal of texts. -/
namespace Go.Proofs.YtbedkjmdckgbgaaDoor.P
open Go.RowKit Go.Shelf Go.Proofs.YtbedkjmdckgbgaaDoorW.PrintWords
def txt (l : List ByteArray) (i : Nat) : List UInt8 := (l.getD i ByteArray.empty).toList
/-- From member i on, are they the same texts? (of rows of one length) -/
def sameFrom (a b : List ByteArray) : Nat → Nat → Bool
  | 0, _ => true
  | n + 1, i => (txt a i == txt b i) && sameFrom a b n (i + 1)
def sameTexts (a b : List ByteArray) : Bool := decide (a.length = b.length) && sameFrom a b a.length 0
set_option maxHeartbeats 1000000 in
set_option maxRecDepth 100000 in
theorem equal_calls (A0 : Option Addr) (c0 : Nat) (a : List ByteArray) (A1 : Option Addr) (c1 : Nat) (b : List ByteArray) (w : World) (h0 : Kd.C Kd.string w A0 a.length a) (h1 : Kd.C Kd.string w A1 b.length b) :
    Calls Tryd.prog 49 #[.slice A0 a.length c0, .slice A1 b.length c1] w fun e w' => e = .returned (.bool (sameTexts a b)) ∧ Drawn0 w w' := by
  have r0 := Kd.reads_of_C (enc := Value.string) (d := ByteArray.empty) (h1 := fun _ => rfl) h0
  have r1 := Kd.reads_of_C (enc := Value.string) (d := ByteArray.empty) (h1 := fun _ => rfl) h1
  have hn := r0.2.1
  have R0 := Lib.hid r0
  have R1 := Lib.hid r1
  clear h0 h1 r0 r1
  by_cases hl : a.length = b.length
  · have hlz : (a.length : Int) = (b.length : Int) := by omega
    have hs : sameTexts a b = sameFrom a b a.length 0 := by simp [sameTexts, hl]
    rw [hs]
    have HL := Lib.hid hl
    clear hl hs
    go_enter Tryd.func49, Tryd.ntmps49
    go_wp2
    go_loopw [13] (fun i wr => ∃ k : Nat, k ≤ a.length ∧ i = .int .i64 k ∧ Hid (sameFrom a b (a.length - k) k = sameFrom a b a.length 0) ∧ Drawn0 w wr) (fun i _ => a.length - (intOf i).toNat)
    case atStart => exact ⟨0, Nat.zero_le _, rfl, Lib.hid rfl, Drawn0.refl _⟩
    case round =>
      obtain ⟨k, hk, rfl, hS, ⟨nd, rfl⟩⟩ := hrel
      by_cases hlt : k < a.length
      · have hltz : (k : Int) < (a.length : Int) := by omega
        have hltb : (k : Int) < (b.length : Int) := by omega
        obtain ⟨a0, rfl, hc0⟩ := R0.out.2.2 (by omega)
        obtain ⟨a1, rfl, hc1⟩ := R1.out.2.2 (by have := HL.out; omega)
        have g0 := hc0 k hlt
        have g1 := hc1 k (by have := HL.out; omega)
        clear hc0 hc1
        have hs := hS.out
        rw [show a.length - k = (a.length - (k + 1)) + 1 by omega, sameFrom] at hs
        unfold txt at hs
        generalize a.getD k ByteArray.empty = x at g0 hs
        generalize b.getD k ByteArray.empty = y at g1 hs
        have HS := Lib.hid hs
        clear hs hS
        by_cases he : x.toList = y.toList
        · have e1 : (x.toList == y.toList) = true := beq_iff_eq.2 he
          have e2 : (x.toList != y.toList) = false := by simp [he]
          have HS2 := Lib.hid (show sameFrom a b (a.length - (k + 1)) (k + 1) = sameFrom a b a.length 0 from by have h := HS.out; rw [e1, Bool.true_and] at h; exact h)
          clear he HS
          go_wp2
          go_quiet (fail)
          go_wp2
          go_round
          case measure => simp [intOf]; omega
          case rel => exact ⟨k + 1, by omega, by simp, HS2, by repeat (first | exact Drawn0.refl _ | apply Drawn0.step)⟩
        · have e1 : (x.toList == y.toList) = false := beq_eq_false_iff_ne.2 he
          have e2 : (x.toList != y.toList) = true := by simp [he]
          have HS2 := Lib.hid (show false = sameFrom a b a.length 0 from by have h := HS.out; rw [e1, Bool.false_and] at h; exact h)
          clear he HS
          go_wp2
          go_quiet (fail)
          go_wp2
          go_ret
          exact ⟨by rw [← HS2.out]; rfl, by repeat (first | exact Drawn0.refl _ | apply Drawn0.step)⟩
      · have hltz : ¬ (k : Int) < (a.length : Int) := by omega
        have hs := hS.out
        rw [show a.length - k = 0 by omega] at hs
        have HS2 := Lib.hid (show true = sameFrom a b a.length 0 from hs)
        clear hs hS
        go_wp2
        go_ret
        exact ⟨by rw [← HS2.out]; rfl, by repeat (first | exact Drawn0.refl _ | apply Drawn0.step)⟩
  · have hs : sameTexts a b = false := by simp [sameTexts, hl]
    rw [hs]
    have hlz : ¬ (a.length : Int) = (b.length : Int) := by omega
    clear hs
    go_enter Tryd.func49, Tryd.ntmps49
    go_wp2
    go_ret
    exact ⟨rfl, Drawn0.refl _⟩
end Go.Proofs.YtbedkjmdckgbgaaDoor.P
/- fresh.Matches: the walk, over what Vary and All answer. -/
namespace Go.Proofs.YtbedkjmdckgbgaaDoor.P
open Go.RowKit Go.Shelf Go.Proofs.YtbedkjmdckgbgaaDoorW.PrintWords
set_option maxHeartbeats 2000000 in
set_option maxRecDepth 100000 in
/-- One name: do the two requests' values differ? -/
theorem match1 (k : Nat) (x y : St) (r s : Fr) (B1 B2 : Nat) (nm : ByteArray) (va vb : List ByteArray) (t : Bool) (W : World) (c1 : W.cell? ⟨B1, 4, none⟩ = some (.slice r.a4 x.qf.length r.c4)) (c2 : W.cell? ⟨B2, 4, none⟩ = some (.slice s.a4 y.qf.length s.c4))
    (hr : Rd W x r) (hs : Rd W y s) (ha : field_All.f k x.qf nm = some va) (hb : field_All.f k y.qf nm = some vb) (ht : sameTexts va vb = t) :
    Calls Tryd.prog 48 #[.string nm, .pointer (some ⟨B1, 0, none⟩), .pointer (some ⟨B2, 0, none⟩)] W fun e w' => e = .returned (.bool (!t)) ∧ Below W.heap.size W w' := by
  have HR := Lib.hid hr
  have HS := Lib.hid hs
  have HA := Lib.hid ha
  have HB := Lib.hid hb
  have HT := Lib.hid ht
  have l2 := World.block_lt_of_cell? _ _ c2
  have C1 := Lib.hid c1
  have C2 := Lib.hid c2
  clear hr hs ha hb ht
  go_enter Tryd.func48, Tryd.ntmps48
  go_wp2
  go_region_with (first | (go_at_call 50; refine (field_All.calls k r.a4 r.c4 x.qf nm va _ (Kd.C_below HR.out.h4 ((Below.refl _ W).drew)) HR.out.l4 HA.out).mono ?_; clear HA; rintro e w1 ⟨v1, rfl, ho1, hb1⟩; obtain ⟨A1, k1, rfl⟩ := Kd.R_slice ho1; have g2 := (hb1.cell (p := ⟨B2, 4, none⟩) l2).trans c2; have HO1 := Lib.hid ho1; have HB1 := Lib.hid hb1; clear ho1 hb1) | (go_at_call 50; refine (field_All.calls k s.a4 s.c4 y.qf nm vb _ (Kd.C_below (Kd.C_below HS.out.h4 ((Below.refl _ W).drew)) HB1.out) HS.out.l4 HB.out).mono ?_; clear HB; rintro e w2 ⟨v2, rfl, ho2, hb2⟩; obtain ⟨A2, k2, rfl⟩ := Kd.R_slice ho2; have HO2 := Lib.hid ho2; have HB2 := Lib.hid hb2; have HO1b := Lib.hid (Kd.R_below HO1.out hb2); clear ho2 hb2) | (go_at_call 49; refine (equal_calls _ _ va _ _ vb _ (Kd.R_reads' HO1b.out).2.2 (Kd.R_reads' HO2.out).2.2).mono ?_; rintro e w3 ⟨rfl, ⟨n3, rfl⟩⟩; rw [HT.out]))
  all_goals go_wp2
  all_goals go_ret
  all_goals
    have hh := pw_below_drewN (below_step HB1.out HB2.out) n3
    exact ⟨rfl, hh.os, hh.tape, hh.output, hh.size, hh.block⟩
end Go.Proofs.YtbedkjmdckgbgaaDoor.P
/- fresh.Matches: the walk, over what Vary and All answer. -/
namespace Go.Proofs.YtbedkjmdckgbgaaDoor.P
open Go.RowKit Go.Shelf Go.Proofs.YtbedkjmdckgbgaaDoorW.PrintWords
def rightB (x : St) : Bool := decide (0 ≤ x.asked ∧ x.asked ≤ 1099511627776 ∧ 0 ≤ x.came ∧ x.came ≤ 1099511627776 ∧ x.asked ≤ x.came)
theorem right_eq (x : St) : fresh_Right.f x.meth x.sch x.host x.path x.qf x.qb x.stat x.sf x.sb x.asked x.came = some (rightB x) := by
  unfold fresh_Right.f fresh_isTime.f rightB
  by_cases h1 : 0 ≤ x.asked <;> by_cases h2 : x.asked ≤ 1099511627776 <;> by_cases h3 : 0 ≤ x.came <;> by_cases h4 : x.came ≤ 1099511627776 <;> simp [h1, h2, h3, h4]
/-- The names by which two requests differ. -/
def differs (va vb : ByteArray → List ByteArray) (n : ByteArray) : Bool := !(sameTexts (va n) (vb n))
def matchB (x y : St) (names : List ByteArray) (star : Bool) (va vb : ByteArray → List ByteArray) : Bool :=
  rightB x && !star && (x.sch.toList == y.sch.toList) && (x.host.toList == y.host.toList) && (x.path.toList == y.path.toList) && !(names.any (differs va vb))
set_option maxHeartbeats 2000000 in
set_option maxRecDepth 100000 in
theorem matches_calls (k : Nat) (x y : St) (r s : Fr) (names : List ByteArray) (star : Bool) (va vb : ByteArray → List ByteArray) (w : World) (hr : Rd w x r) (hs : Rd w y s)
    (hv : field_Vary.f k x.sf = some (names, star)) (ha : ∀ n ∈ names, field_All.f k x.qf n = some (va n)) (hb : ∀ n ∈ names, field_All.f k y.qf n = some (vb n)) :
    Calls Tryd.prog 27 #[.agg (stC x r), .agg (reqC y s)] w fun e w' => e = .returned (.bool (matchB x y names star va vb)) ∧ Below w.heap.size w w' := by
  have hw1 : Row39 ((w.alloc (.cells (stC x r) 39)).alloc (.cells (reqC y s) 32)) w.heap.size x r :=
    (Below.heap_alloc _ _ _ (by simp)).trans (World.alloc_heap_new w _)
  have hw2 : ((w.alloc (.cells (stC x r) 39)).alloc (.cells (reqC y s) 32)).heap[w.heap.size + 1]? = some (.cells (reqC y s) 32 (0, 0)) := by
    have h := World.alloc_heap_new (w.alloc (.cells (stC x r) 39)) (.cells (reqC y s) 32)
    rwa [World.size_alloc] at h
  have hb0 : Below w.heap.size w ((w.alloc (.cells (stC x r) 39)).alloc (.cells (reqC y s) 32)) := below_alloc (below_alloc (Below.refl _ _) _) _
  have hs0 : ((w.alloc (.cells (stC x r) 39)).alloc (.cells (reqC y s) 32)).heap.size = w.heap.size + 2 := by simp
  have HR := Lib.hid hr
  have HS := Lib.hid hs
  have HV := Lib.hid hv
  have HA := Lib.hid ha
  have HB := Lib.hid hb
  clear hr hs hv ha hb
  go_enter Tryd.func27, Tryd.ntmps27
  have q7 : ((w.alloc (.cells (stC x r) 39)).alloc (.cells (reqC y s) 32)).cell? ⟨w.heap.size, 7, none⟩ = some (.slice r.a7 x.sf.length r.c7) := (row_cell hw1 7).trans rfl
  go_wp2_with fail
  clear q7
  generalize ((w.alloc (.cells (stC x r) 39)).alloc (.cells (reqC y s) 32)) = W0 at *
  refine (field_Vary.calls k r.a7 r.c7 x.sf names star _ (Kd.C_below HR.out.h7 hb0) HR.out.l7 HV.out).mono ?_
  rintro e w1 ⟨v1, rfl, ho1, hb1⟩
  obtain ⟨A1, k1, rfl⟩ := Kd.R_slice ho1
  have hr1 : w1.heap[w.heap.size]? = some (.cells (stC x r) 39 (0, 0)) := (hb1.block _ (by omega)).trans hw1
  have hr2 : w1.heap[w.heap.size + 1]? = some (.cells (reqC y s) 32 (0, 0)) := (hb1.block _ (by omega)).trans hw2
  have HB1 := Lib.hid (below_step hb0 hb1)
  have HO1 := Lib.hid ho1
  have HR1 := Lib.hid hr1
  have HR2 := Lib.hid hr2
  have HZ := Lib.hid (show w.heap.size + 2 ≤ w1.heap.size by have := hb1.size; omega)
  clear hw1 hw2 hb0 hs0 ho1 hb1 hr1 hr2
  go_wp2_with (first | (refine wpList_load_row rfl _ _ rfl w.heap.size rfl _ _ (0, 0) _ HR1.out Tryd.underlying39 rfl (by kernel_rfl) ?_))
  refine (right_calls x r (rightB x) _ (HR.out.below ⟨HB1.out.os, HB1.out.tape, HB1.out.output, HB1.out.size, HB1.out.block⟩) (right_eq x)).mono ?_
  rintro e w2 ⟨rfl, hb2⟩
  have hr1 := (hb2.block w.heap.size (by have := HZ.out; omega)).trans HR1.out
  have hr2 := (hb2.block (w.heap.size + 1) (by have := HZ.out; omega)).trans HR2.out
  have x1 : w2.cell? ⟨w.heap.size, 1, none⟩ = some (.string x.sch) := (row_cell hr1 1).trans rfl
  have x2 : w2.cell? ⟨w.heap.size, 2, none⟩ = some (.string x.host) := (row_cell hr1 2).trans rfl
  have x3 : w2.cell? ⟨w.heap.size, 3, none⟩ = some (.string x.path) := (row_cell hr1 3).trans rfl
  have y1 : w2.cell? ⟨w.heap.size + 1, 1, none⟩ = some (.string y.sch) := (row_cell hr2 1).trans rfl
  have y2 : w2.cell? ⟨w.heap.size + 1, 2, none⟩ = some (.string y.host) := (row_cell hr2 2).trans rfl
  have y3 : w2.cell? ⟨w.heap.size + 1, 3, none⟩ = some (.string y.path) := (row_cell hr2 3).trans rfl
  have x4 := Lib.hid (show w2.cell? ⟨w.heap.size, 4, none⟩ = some (.slice r.a4 x.qf.length r.c4) from (row_cell hr1 4).trans rfl)
  have y4 := Lib.hid (show w2.cell? ⟨w.heap.size + 1, 4, none⟩ = some (.slice s.a4 y.qf.length s.c4) from (row_cell hr2 4).trans rfl)
  have HB2 := Lib.hid (below_step HB1.out hb2)
  have HO2 := Lib.hid (Kd.R_below HO1.out hb2)
  clear hr1 hr2 hb2 HO1 HB1 HR1 HR2
  by_cases c1 : rightB x = true
  case neg =>
    have d1 : rightB x = false := by simpa using c1
    clear c1
    go_wp2_with fail
    go_ret
    exact ⟨by simp [matchB, *], HB2.out⟩
  by_cases c2 : star = true
  case pos =>
    subst c2
    go_wp2_with fail
    go_ret
    exact ⟨by simp [matchB, *], HB2.out⟩
  have d2 : star = false := by simpa using c2
  subst d2
  clear c2
  by_cases c3 : x.sch.toList = y.sch.toList
  case neg =>
    have d3 : (x.sch.toList == y.sch.toList) = false := beq_eq_false_iff_ne.2 c3
    have d4 : (x.sch.toList != y.sch.toList) = true := by simp [c3]
    clear c3
    go_wp2_with fail
    go_ret
    exact ⟨by simp [matchB, *], HB2.out⟩
  have d3 : (x.sch.toList == y.sch.toList) = true := beq_iff_eq.2 c3
  have d3' : (x.sch.toList != y.sch.toList) = false := by simp [c3]
  clear c3
  by_cases c4 : x.host.toList = y.host.toList
  case neg =>
    have d5 : (x.host.toList == y.host.toList) = false := beq_eq_false_iff_ne.2 c4
    have d6 : (x.host.toList != y.host.toList) = true := by simp [c4]
    clear c4
    go_wp2_with fail
    go_ret
    exact ⟨by simp [matchB, *], HB2.out⟩
  have d4 : (x.host.toList == y.host.toList) = true := beq_iff_eq.2 c4
  have d4' : (x.host.toList != y.host.toList) = false := by simp [c4]
  clear c4
  by_cases c5 : x.path.toList = y.path.toList
  case neg =>
    have d5 : (x.path.toList == y.path.toList) = false := beq_eq_false_iff_ne.2 c5
    have d6 : (x.path.toList != y.path.toList) = true := by simp [c5]
    clear c5
    go_wp2_with fail
    go_ret
    exact ⟨by simp [matchB, *], HB2.out⟩
  have d5 : (x.path.toList == y.path.toList) = true := beq_iff_eq.2 c5
  have d5' : (x.path.toList != y.path.toList) = false := by simp [c5]
  clear c5
  have hm : matchB x y names false va vb = !(names.any (differs va vb)) := by simp [matchB, *]
  have HM := Lib.hid hm
  clear hm
  have hrx := HR.out.below ⟨HB2.out.os, HB2.out.tape, HB2.out.output, HB2.out.size, HB2.out.block⟩
  have hsy := HS.out.below ⟨HB2.out.os, HB2.out.tape, HB2.out.output, HB2.out.size, HB2.out.block⟩
  have hg : GivesOn 48 #[.pointer (some ⟨w.heap.size, 0, none⟩), .pointer (some ⟨w.heap.size + 1, 0, none⟩)] (differs va vb) names w2 := fun W n hn hW =>
    match1 k x y r s w.heap.size (w.heap.size + 1) n (va n) (vb n) _ W (pw_cell_below hW x4.out) (pw_cell_below hW y4.out) (hrx.below hW) (hsy.below hW) (HA.out n hn) (HB.out n hn) rfl
  have eg := enters_of (P := Tryd.prog) Tryd.func48 (by kernel_rfl) rfl
  have HCF := Lib.hid (containsFunc_any 48 _ (differs va vb) eg A1 k1 names w2 (Kd.R_reads' HO2.out).2.2 hg)
  clear hg hrx hsy eg
  go_wp2_with fail
  refine HCF.out.mono ?_
  rintro e w3 ⟨rfl, hb3⟩
  have HB3 := Lib.hid (below_step HB2.out hb3)
  clear hb3
  go_wp2
  go_ret
  exact ⟨by rw [HM.out]; rfl, HB3.out⟩
end Go.Proofs.YtbedkjmdckgbgaaDoor.P
/- Matching and size as functions of exchanges. -/
namespace Go.Proofs.YtbedkjmdckgbgaaDoor.P
open Go.RowKit Go.Shelf Go.Proofs.YtbedkjmdckgbgaaDoorW.PrintWords
/-- An exchange over which the code comes to an end within k rounds, told by its parts. -/
structure Fine (k : Nat) (x : St) : Prop where
  vary : ∃ t, field_Vary.f k x.sf = some t
  all : ∀ n, ∃ v, field_All.f k x.qf n = some v
  small : Small x
  size : ∃ z, store_Size.f k x.meth x.sch x.host x.path x.qf x.qb x.stat x.sf x.sb x.asked x.came = some z ∧ 64 ≤ z ∧ z ≤ 1099511627776
def vals (k : Nat) (x : St) (n : ByteArray) : List ByteArray := (field_All.f k x.qf n).getD []
def mB (k : Nat) (x y : St) : Bool :=
  match field_Vary.f k x.sf with
  | none => false
  | some t => matchB x y t.1 t.2 (vals k x) (vals k y)
def sizeI (k : Nat) (x : St) : Int := (store_Size.f k x.meth x.sch x.host x.path x.qf x.qb x.stat x.sf x.sb x.asked x.came).getD 0
theorem vals_eq {k : Nat} {x : St} (h : Fine k x) (n : ByteArray) : field_All.f k x.qf n = some (vals k x n) := by
  obtain ⟨v, hv⟩ := h.all n
  simp [vals, hv]
theorem sizeI_eq {k : Nat} {x : St} (h : Fine k x) : store_Size.f k x.meth x.sch x.host x.path x.qf x.qb x.stat x.sf x.sb x.asked x.came = some (sizeI k x) ∧ 64 ≤ sizeI k x ∧ sizeI k x ≤ 1099511627776 := by
  obtain ⟨z, hz, h1, h2⟩ := h.size
  have e : sizeI k x = z := by simp [sizeI, hz]
  rw [e]
  exact ⟨hz, h1, h2⟩
theorem mB_calls (k : Nat) (x y : St) (r s : Fr) (w : World) (hx : Fine k x) (hy : Fine k y) (hr : Rd w x r) (hs : Rd w y s) :
    Calls Tryd.prog 27 #[.agg (stC x r), .agg (reqC y s)] w fun e w' => e = .returned (.bool (mB k x y)) ∧ Below w.heap.size w w' := by
  obtain ⟨⟨names, star⟩, ht⟩ := hx.vary
  have e : mB k x y = matchB x y names star (vals k x) (vals k y) := by simp [mB, ht]
  rw [e]
  exact matches_calls k x y r s names star (vals k x) (vals k y) w hr hs ht (fun n _ => vals_eq hx n) (fun n _ => vals_eq hy n)
theorem size_any (k : Nat) (x : St) (r : Fr) (w : World) (hx : Fine k x) (hr : Rd w x r) :
    Calls Tryd.prog 24 #[.agg (stC x r)] w fun e w' => e = .returned (.int .i64 (sizeI k x)) ∧ Below w.heap.size w w' :=
  size_calls k x r _ w hr (sizeI_eq hx).1
end Go.Proofs.YtbedkjmdckgbgaaDoor.P
/- A region that draws its order, whose operations each yield one and the same value in whatever order: each is looked at once, over the frame as it is at the end. Conditions: what an operation reads is written ahead of it; a property of the world that every operation keeps. -/
namespace Go.Proofs.YtbedkjmdckgbgaaDoor.P
open Go
section
variable {F : Fence} {n : Nat} {P : Program} {ops : Array Oper} {Q : Exit → Act → World → Prop}
def noOdd (o : Oper) : Bool := match o.op with | .select .. => false | .defer .. => false | _ => true
/-- Every edge goes back; what is looked at is written ahead. -/
def coveredAt (ops : Array Oper) (i : Nat) (o : Oper) : Bool :=
  noOdd o && o.after.all (fun e => !Region.binds .any e || decide (e.on < i)) &&
    (o.looksAt ops).all fun t => (List.range ops.size).all fun j => match ops[j]? with
      | none => true
      | some p => p.dst != some t || o.after.any (fun e => e.on == j && Region.binds .any e)
def covered (ops : Array Oper) : Bool := (List.range ops.size).all fun i => match ops[i]? with
  | none => true
  | some o => coveredAt ops i o
theorem covered_at (h : covered ops = true) {i : Nat} {o : Oper} (ho : ops[i]? = some o) : coveredAt ops i o = true := by
  have h1 := List.all_eq_true.1 h i (List.mem_range.2 (Array.getElem?_eq_some_iff.1 ho).1)
  simpa [ho] using h1
/-- An operation, over the frame as it is at the end. -/
def DetOp (F : Fence) (n : Nat) (P : Program) (ops : Array Oper) (fin : Act) (I : World → Prop) (o : Oper) : Prop :=
  if Region.wanted o (yielded ops fin.tmps) = true then ∀ w, I w → o.wpIn F n P fin w (fun a' w' => a' = fin ∧ I w') (fun _ _ _ => False)
  else fin.put o.dst undef = fin
structure Agrees (ops : Array Oper) (fin : Act) (listed : Array Bool) (a : Act) : Prop where
  defers : a.defers = fin.defers
  size : a.tmps.size = fin.tmps.size
  tmps : ∀ t, (∀ (j : Nat) (o : Oper), ops[j]? = some o → o.dst = some t → listed.getD j true = true) → a.tmps.getD t undef = fin.tmps.getD t undef
theorem getD_tmp {a b : Act} (hs : a.tmps.size = b.tmps.size) {t : Nat} (h : a.tmps.getD t undef = b.tmps.getD t undef) : a.tmps[t]? = b.tmps[t]? := by
  by_cases hlt : t < a.tmps.size
  · have hlt' : t < b.tmps.size := by omega
    simp only [Array.getD_eq_getD_getElem?, Array.getElem?_eq_getElem hlt, Array.getElem?_eq_getElem hlt', Option.getD_some] at h
    rw [Array.getElem?_eq_getElem hlt, Array.getElem?_eq_getElem hlt', h]
  · rw [Array.getElem?_eq_none (by omega), Array.getElem?_eq_none (by omega)]
theorem agrees_done {fin a : Act} {listed : Array Bool} (h : Agrees ops fin listed a) (hall : ∀ j, listed.getD j true = true) : a = fin := by
  have ht : a.tmps = fin.tmps := Array.ext_getElem? fun t => getD_tmp h.size (h.tmps t (fun j _ _ _ => hall j))
  have hd := h.defers
  cases a
  cases fin
  simp_all
/-- What an operation looks at is as it will be. -/
theorem agrees_looks {fin a : Act} {listed : Array Bool} (hc : covered ops = true) (h : Agrees ops fin listed a) {i : Nat} {o : Oper} (ho : ops[i]? = some o)
    (hdeps : ∀ e ∈ o.after, Region.binds .any e = true → listed.getD e.on false = true) : ∀ t ∈ o.looksAt ops, a.tmps.getD t undef = fin.tmps.getD t undef := by
  intro t ht
  have hca := covered_at hc ho
  unfold coveredAt at hca
  simp only [Bool.and_eq_true] at hca
  have h2 := List.all_eq_true.1 hca.2 t ht
  refine h.tmps t (fun j p hp hd => ?_)
  have h3 := List.all_eq_true.1 h2 j (List.mem_range.2 (Array.getElem?_eq_some_iff.1 hp).1)
  simp only [hp, hd, bne_self_eq_false, Bool.false_or] at h3
  rw [← Array.any_toList, List.any_eq_true] at h3
  obtain ⟨e, he, hej⟩ := h3
  simp only [Bool.and_eq_true, beq_iff_eq] at hej
  obtain ⟨hej, hb⟩ := hej
  have he : e ∈ o.after := by simpa using he
  have h4 := hdeps e he hb
  rw [hej] at h4
  by_cases hlt : j < listed.size
  · simpa [hlt] using h4
  · simp [Array.getElem?_eq_none (Nat.le_of_not_lt hlt)]
theorem noOdd_select {o : Oper} (h : noOdd o = true) : ∀ cs b, o.op ≠ .select cs b := fun cs b e => by simp [noOdd, e] at h
theorem agrees_put {fin a : Act} {listed : Array Bool} (h : Agrees ops fin listed a) {i : Nat} {o : Oper} (ho : ops[i]? = some o) {v : Value} (hv : fin.put o.dst v = fin) : Agrees ops fin (listed.setIfInBounds i true) (a.put o.dst v) := by
  cases hd : o.dst with
  | none =>
    refine ⟨h.defers, h.size, fun t hw => h.tmps t (fun j p hp hpd => ?_)⟩
    have h1 := hw j p hp hpd
    by_cases hji : i = j
    · subst hji
      rw [ho] at hp
      injection hp with hp
      subst hp
      rw [hd] at hpd
      cases hpd
    · rwa [getD_set_ne true hji] at h1
  | some d =>
    rw [hd] at hv
    refine ⟨h.defers, by simp [Act.put, h.size], fun t hw => ?_⟩
    by_cases htd : d = t
    · subst htd
      have hf : (fin.put (some d) v).tmps.getD d undef = fin.tmps.getD d undef := by rw [hv]
      rw [← hf]
      simp only [Act.put, Array.getD_eq_getD_getElem?, Array.getElem?_setIfInBounds, h.size, if_true]
    · have h1 : (a.put (some d) v).tmps.getD t undef = a.tmps.getD t undef := by simp [Act.put, Array.getElem?_setIfInBounds_ne htd]
      rw [h1]
      refine h.tmps t (fun j p hp hpd => ?_)
      have h2 := hw j p hp hpd
      by_cases hji : i = j
      · subst hji
        rw [ho] at hp
        injection hp with hp
        subst hp
        rw [hd] at hpd
        injection hpd with hpd
        exact absurd hpd htd
      · rwa [getD_set_ne true hji] at h2
theorem eval_looks {fin a : Act} {o : Oper} (h : ∀ t ∈ o.looksAt ops, a.tmps.getD t undef = fin.tmps.getD t undef) : ∀ x ∈ o.op.operands, a.eval x = fin.eval x := by
  intro x hx
  cases x with
  | tmp t =>
    have := h t (List.mem_append_left _ (List.mem_filterMap.2 ⟨.tmp t, by simpa using hx, rfl⟩))
    simpa [Act.eval] using this
  | _ => rfl
theorem wanted_looks {fin a : Act} (hs : a.tmps.size = fin.tmps.size) {o : Oper} (h : ∀ t ∈ o.looksAt ops, a.tmps.getD t undef = fin.tmps.getD t undef) :
    Region.wanted o (yielded ops a.tmps) = Region.wanted o (yielded ops fin.tmps) := by
  unfold Region.wanted
  cases hg : o.guard with
  | none => rfl
  | some gw =>
    obtain ⟨g, want⟩ := gw
    have hy : yielded ops a.tmps g = yielded ops fin.tmps g := by
      unfold yielded
      cases ht : (ops[g]?).bind (·.dst) with
      | none => rfl
      | some t =>
        have := getD_tmp hs (h t (List.mem_append_right _ (by simp [hg, ht])))
        simp only [Option.bind_some]
        rw [this]
    simp only [hy]
theorem count_set {l : List Bool} {i : Nat} (h : l[i]? = some false) : (l.set i true).count false + 1 = l.count false := by
  induction l generalizing i with
  | nil => simp at h
  | cons b l ih =>
    cases i with
    | zero =>
      obtain rfl : b = false := by simpa using h
      simp
    | succ i =>
      have h' : l[i]? = some false := by simpa using h
      rw [List.set_cons_succ, List.count_cons, List.count_cons, ← ih h']
      omega
theorem wpAnyIn_det (hF : ∀ f, F.fn f) (fin : Act) (I : World → Prop) (hc : covered ops = true) (hop : ∀ (i : Nat) (o : Oper), ops[i]? = some o → DetOp F n P ops fin I o) (hQ : ∀ w, I w → Q .normal fin w) :
    ∀ (fuel : Nat) (listed : Array Bool) (a : Act) (w : World), listed.size = ops.size → listed.toList.count false ≤ fuel → Agrees ops fin listed a → I w → wpAnyIn F n P .any ops Q fuel listed a w := by
  -- nothing may come up: all have
  have alldone : ∀ (listed : Array Bool) (a : Act) (w : World), listed.size = ops.size → (∀ j, listed.getD j true = true) → Agrees ops fin listed a → I w → Q .normal a w := fun listed a w _ hall ha hI => by
    rw [agrees_done ha hall]
    exact hQ w hI
  have least : ∀ (listed : Array Bool), listed.size = ops.size → Region.ready .any ops listed = [] → ∀ j, listed.getD j true = true := by
    intro listed hs hr j
    induction j using Nat.strongRecOn with
    | ind j ih =>
      by_cases hj : listed.getD j true = true
      · exact hj
      · have hj' : listed.getD j true = false := by simpa using hj
        have hlt : j < listed.size := by
          rcases Nat.lt_or_ge j listed.size with h | h
          · exact h
          · simp [Array.getElem?_eq_none h] at hj'
        obtain ⟨o, ho⟩ : ∃ o, ops[j]? = some o := ⟨ops[j], Array.getElem?_eq_getElem (by omega)⟩
        have hca := covered_at hc ho
        unfold coveredAt at hca
        simp only [Bool.and_eq_true, Array.all_eq_true_iff_forall_mem] at hca
        have : j ∈ Region.ready .any ops listed := mem_ready.2 ⟨hj', o, ho, fun e he hb => by
          have h1 := hca.1.2 e he
          simp only [hb, Bool.not_true, Bool.false_or, decide_eq_true_eq] at h1
          have h2 := ih e.on h1
          have hlt2 : e.on < listed.size := by omega
          simpa [hlt2] using h2⟩
        rw [hr] at this
        cases this
  intro fuel
  induction fuel with
  | zero =>
    intro listed a w hs hn ha hI
    have hall : ∀ j, listed.getD j true = true := by
      intro j
      by_cases hj : j < listed.size
      · have h1 : listed.toList.count false = 0 := by omega
        rw [List.count_eq_zero] at h1
        have h2 : listed[j] ∈ listed.toList := by simp
        cases hb : listed[j] with
        | true => simp [hj, hb]
        | false => rw [hb] at h2; exact absurd h2 h1
      · simp [Array.getElem?_eq_none (Nat.le_of_not_lt hj)]
    refine ⟨?_, alldone listed a w hs hall ha hI⟩
    cases hr : Region.ready .any ops listed with
    | nil => rfl
    | cons i r =>
      have hi : i ∈ Region.ready .any ops listed := by rw [hr]; exact .head _
      have := (mem_ready.1 hi).1
      rw [hall i] at this
      cases this
  | succ fuel ih =>
    intro listed a w hs hn ha hI
    refine ⟨fun hr => alldone listed a w hs (least listed hs hr) ha hI, fun i hi => ?_⟩
    obtain ⟨hun, o, ho, hdeps⟩ := mem_ready.1 hi
    have hlt : i < listed.size := by
      rcases Nat.lt_or_ge i listed.size with h | h
      · exact h
      · simp [Array.getElem?_eq_none h] at hun
    have hun' : listed.toList[i]? = some false := by
      simp only [Array.getD_eq_getD_getElem?, Array.getElem?_eq_getElem hlt, Option.getD_some] at hun
      simp [hlt, hun]
    have hn2 : (listed.setIfInBounds i true).toList.count false ≤ fuel := by
      rw [Array.toList_setIfInBounds]
      have := count_set hun'
      omega
    have hs2 : (listed.setIfInBounds i true).size = ops.size := by simp [hs]
    have hca := covered_at hc ho
    unfold coveredAt at hca
    simp only [Bool.and_eq_true] at hca
    have hsel := noOdd_select hca.1.1
    have hl := agrees_looks hc ha ho hdeps
    have hev := eval_looks hl
    have hw := wanted_looks ha.size hl
    have hdet := hop i o ho
    unfold DetOp at hdet
    unfold wpOpIn
    simp only [ho]
    rw [hw]
    have go : ∀ v w', fin.put o.dst v = fin → I w' → wpAnyIn F n P .any ops Q fuel (listed.setIfInBounds i true) (a.put o.dst v) w' := fun v w' hv hI' => ih _ _ _ hs2 hn2 (agrees_put ha ho hv) hI'
    split
    · rename_i hwant
      rw [if_pos hwant] at hdet
      have h := hdet w hI
      unfold Oper.wpIn at h ⊢
      refine ⟨fun f _ => hF f, ?_⟩
      have hex : o.semAt F.round a.eval = o.semAt F.round fin.eval := by
        unfold Oper.semAt
        rw [execOp_congr o hsel hev]
        cases F.round with
        | none => rfl
        | some l =>
          cases hop' : o.op <;> first | rfl | (simp [noOdd, hop'] at hca)
      rw [hex]
      have h := h.2
      generalize (o.semAt F.round fin.eval).run P w = r at h ⊢
      cases r with
      | ok x w' =>
        cases x <;> simp only [Oper.uponIn] at h ⊢
        case value v => exact go _ _ h.1 h.2
        case skip => exact go _ _ h.1 h.2
        case defer d =>
          have h1 := congrArg (fun a : Act => a.defers.length) h.1
          cases hd : o.dst <;> simp [hd, Act.put] at h1
        case enter f args =>
          refine ⟨h.1, CallsIn.mono h.2 fun e w'' he => ?_⟩
          cases e with
          | returned v => exact go _ _ he.1 he.2
          | panicked c => exact he.elim
          | outgrown => obtain ⟨_, _, hf⟩ := he; exact hf.elim
        case row row args => exact ⟨h.1, RowsIn.mono h.2 fun v w'' he => go _ _ he.1 he.2⟩
        case round l f tmps assign body =>
          refine ⟨h.1, RoundIn.mono h.2 fun e w'' he => ?_⟩
          cases e with
          | returned v => exact go _ _ he.1 he.2
          | panicked c => exact he.elim
          | outgrown => obtain ⟨_, _, hf⟩ := he; exact hf.elim
      | halt x w' =>
        cases x <;> simp only [Oper.uponIn] at h ⊢
    · rename_i hwant
      rw [if_neg hwant] at hdet
      exact ⟨fun f _ => hF f, go _ _ hdet hI⟩
/-- All operations of a row. -/
def DetAll (F : Fence) (n : Nat) (P : Program) (ops : Array Oper) (fin : Act) (I : World → Prop) : List Oper → Prop
  | [] => True
  | o :: r => DetOp F n P ops fin I o ∧ DetAll F n P ops fin I r
theorem detAll_mem {fin : Act} {I : World → Prop} : ∀ {l : List Oper}, DetAll F n P ops fin I l → ∀ o ∈ l, DetOp F n P ops fin I o
  | [], _, o, h => by cases h
  | x :: r, hx, o, h => by
    rcases List.mem_cons.1 h with rfl | h
    · exact hx.1
    · exact detAll_mem hx.2 o h
/-- What no operation writes is as it was. -/
def untouched (ops : Array Oper) (t : Nat) : Bool := ops.all fun o => o.dst != some t
theorem wpIn_region_det {id : Nat} {a : Act} {w : World} (hm : P.follows .mixedOrders = true) (hF : ∀ f, F.fn f) (fin : Act) (I : World → Prop) (hc : covered ops = true) (hd : a.defers = fin.defers) (hz : a.tmps.size = fin.tmps.size)
    (ht : ∀ t, untouched ops t = true → a.tmps.getD t undef = fin.tmps.getD t undef) (hI : I w.drew) (hop : DetAll F n P ops fin I ops.toList) (hQ : ∀ w, I w → Q .normal fin w) :
    (Code.region id ops true).wpIn F n P Q a w := by
  refine wpIn_region_any hm (wpAnyIn_det hF fin I hc (fun i o ho => detAll_mem hop o (by simpa using Array.mem_of_getElem? ho)) hQ ops.size _ a _ (by simp) (by simp) ⟨hd, hz, fun t hw => ?_⟩ hI)
  refine ht t ?_
  unfold untouched
  rw [Array.all_eq_true_iff_forall_mem]
  intro o ho
  obtain ⟨j, hj⟩ := Array.getElem?_of_mem ho
  simp only [bne_iff_ne, ne_eq]
  intro hdst
  have := hw j o hj hdst
  have hlt : j < ops.size := (Array.getElem?_eq_some_iff.1 hj).1
  simp [hlt] at this
def putAll (a : Act) (vs : List (Tmp × Value)) : Act := vs.foldl (fun a p => a.put (some p.1) p.2) a
theorem putAll_untouched (ops : Array Oper) : ∀ (vs : List (Tmp × Value)) (a : Act), (vs.map (·.1)).all (fun t => !untouched ops t) = true → (putAll a vs).defers = a.defers ∧ (putAll a vs).tmps.size = a.tmps.size ∧ ∀ t, untouched ops t = true → a.tmps.getD t undef = (putAll a vs).tmps.getD t undef
  | [], _, _ => ⟨rfl, rfl, fun _ _ => rfl⟩
  | (d, v) :: vs, a, h => by
    simp only [List.map_cons, List.all_cons, Bool.and_eq_true] at h
    obtain ⟨h1, h2, h3⟩ := putAll_untouched ops vs (a.put (some d) v) h.2
    refine ⟨h1, h2.trans (by simp [Act.put]), fun t ht => ?_⟩
    have hne : d ≠ t := fun e => by
      have h4 := h.1
      subst e
      rw [ht] at h4
      cases h4
    rw [show putAll a ((d, v) :: vs) = putAll (a.put (some d) v) vs from rfl, ← h3 t ht]
    simp [Act.put, Array.getElem?_setIfInBounds_ne hne]
/-- The same; the frame at the end is the one ahead with some slots written. -/
theorem wpIn_region_put {id : Nat} {a : Act} {w : World} (hm : P.follows .mixedOrders = true) (hF : ∀ f, F.fn f) (ts : List Tmp) (vs : List (Tmp × Value)) (fin : Act) (I : World → Prop) (hc : covered ops = true) (hts : ts.all (fun t => !untouched ops t) = true)
    (he : vs.map (·.1) = ts) (hfin : putAll a vs = fin) (hI : I w.drew) (hop : DetAll F n P ops fin I ops.toList) (hQ : ∀ w, I w → Q .normal fin w) :
    (Code.region id ops true).wpIn F n P Q a w := by
  obtain ⟨h1, h2, h3⟩ := putAll_untouched ops vs a (by rw [he]; exact hts)
  rw [hfin] at h1 h2 h3
  exact wpIn_region_det hm hF fin I hc h1.symm h2.symm h3 hI hop hQ
theorem det_skip {fin : Act} {I : World → Prop} {o : Oper} (h : Region.wanted o (yielded ops fin.tmps) = false) (hp : fin.put o.dst undef = fin) : DetOp F n P ops fin I o := by
  unfold DetOp
  rw [h]
  exact hp
theorem det_go {fin : Act} {I : World → Prop} {o : Oper} (h : Region.wanted o (yielded ops fin.tmps) = true) (hp : ∀ w, I w → o.wpIn F n P fin w (fun a' w' => a' = fin ∧ I w') (fun _ _ _ => False)) : DetOp F n P ops fin I o := by
  unfold DetOp
  rw [if_pos h]
  exact hp
/-- What an operation owes outside every fence serves in a round, too. -/
theorem wpOpIn_of_wpOp {l : Nat} (hl : ¬ LetsOut Q) (hno : ∀ (i : Nat) (o : Oper), ops[i]? = some o → noOdd o = true) {i : Nat} {K K' : Act → World → Prop} (hK : ∀ a w, K a w → K' a w) {a : Act} {w : World} (h : wpOp P ops Q i K a w) : wpOpIn (Fence.wide.inRound l) n P ops Q i K' a w := by
  unfold wpOp at h
  unfold wpOpIn
  cases ho : ops[i]? with
  | none =>
    simp only [ho] at h ⊢
    exact hK _ _ h
  | some o =>
    simp only [ho] at h ⊢
    split
    · rename_i hw
      rw [if_pos hw] at h
      rcases h with h | ⟨_, hlet⟩
      · have hnd : ∀ c, o.op ≠ .defer c := fun c e => by
          have h1 := hno i o ho
          simp [noOdd, e] at h1
        unfold Oper.wp at h
        unfold Oper.wpIn
        refine ⟨fun f _ => trivial, ?_⟩
        rw [Oper.semAt_eq _ _ _ hnd]
        generalize (execOp a.eval o).run P w = r at h ⊢
        cases r with
        | ok x w' =>
          cases x <;> simp only [Oper.upon, Oper.uponIn] at h ⊢
          case value v => exact hK _ _ h
          case skip => exact hK _ _ h
          case defer d => exact hK _ _ h
          case enter f args =>
            refine ⟨fun h => (by cases h), CallsIn.inRound l (callsIn_wide.2 (Calls.mono h fun e w'' he => ?_))⟩
            cases e with
            | returned v => exact hK _ _ he
            | panicked c => exact he
            | outgrown => exact absurd he hl
          case row row args => exact ⟨fun h => (by cases h), fun c cs _ => let ⟨v, w', he, hs⟩ := h c cs; ⟨v, w', hK _ _ he, stepsIn_wide.2 hs⟩⟩
        | halt x w' =>
          cases x <;> simp only [Oper.upon, Oper.uponIn] at h ⊢
          case panic v => exact h
      · exact absurd hlet hl
    · rename_i hw
      rw [if_neg hw] at h
      exact ⟨fun f _ => trivial, hK _ _ h⟩
theorem wpAnyIn_of_wpAny {l : Nat} {md : Region.Mode} (hl : ¬ LetsOut Q) (hno : ∀ (i : Nat) (o : Oper), ops[i]? = some o → noOdd o = true) :
    ∀ (fuel : Nat) (listed : Array Bool) (a : Act) (w : World), wpAny P md ops Q fuel listed a w → wpAnyIn (Fence.wide.inRound l) n P md ops Q fuel listed a w
  | 0, _, _, _, h => h
  | fuel + 1, _, _, _, h => ⟨h.1, fun i hi => wpOpIn_of_wpOp hl hno (fun a w h => wpAnyIn_of_wpAny hl hno fuel _ a w h) (h.2 i hi)⟩
/-- A region in a round, walked as one outside; a property of the world (S) by which loads may be taken first. -/
theorem wpIn_region_held {l : Nat} {id : Nat} {a : Act} {w : World} (hm : P.follows .mixedOrders = true) (hl : ¬ LetsOut Q) (hno : ops.all noOdd = true) (S : World → Prop)
    (h : wpAnyH P .any ops Q S ops.size (Array.replicate ops.size false) a w.drew) : (Code.region id ops true).wpIn (Fence.wide.inRound l) n P Q a w := by
  rw [Array.all_eq_true_iff_forall_mem] at hno
  exact wpIn_region_any hm (wpAnyIn_of_wpAny hl (fun i o ho => hno o (Array.mem_of_getElem? ho)) _ _ _ _ (wpAny_of_held _ _ _ _ h))
theorem wpOp_of_if {i : Nat} {o : Oper} {K : Act → World → Prop} {a : Act} {w : World} (ho : ops[i]? = some o) (h : if Region.wanted o (yielded ops a.tmps) = true then Oper.wp P o a w K Q else K (a.put o.dst undef) w) : wpOp P ops Q i K a w := by
  unfold wpOp
  simp only [ho]
  split at h
  · rename_i hw
    rw [if_pos hw]
    exact .inl h
  · rename_i hw
    rw [if_neg hw]
    exact h
/-- The one operation that may come up. -/
theorem wpAnyH_one {S : World → Prop} {md : Region.Mode} (i : Nat) {o : Oper} {fuel : Nat} {listed : Array Bool} {a : Act} {w : World} (hr : Region.ready md ops listed = [i]) (ho : ops[i]? = some o)
    (h : ∀ K : Act → World → Prop, (∀ a' w', S w' → wpAnyH P md ops Q S fuel (listed.setIfInBounds i true) a' w' → K a' w') → if Region.wanted o (yielded ops a.tmps) = true then Oper.wp P o a w K Q else K (a.put o.dst undef) w) : wpAnyH P md ops Q S (fuel + 1) listed a w :=
  wpAnyH_all hr (by simp) (fun j hj => by
    obtain rfl : j = i := by simpa using hj
    exact wpOp_of_if ho (h _ (fun a' w' hs hh => ⟨hs, hh⟩)))
/-- Whatever order is picked from here on; behind operation j the world meets 'S j'. -/
def wpAnyS (P : Program) (md : Region.Mode) (ops : Array Oper) (Q : Exit → Act → World → Prop) (S : Nat → World → Prop) : Nat → Array Bool → Act → World → Prop
  | 0, listed, a, w => Region.ready md ops listed = [] ∧ Q .normal a w
  | fuel + 1, listed, a, w =>
    (Region.ready md ops listed = [] → Q .normal a w) ∧
    ∀ i ∈ Region.ready md ops listed, wpOp P ops Q i (fun a' w' => S i w' ∧ wpAnyS P md ops Q S fuel (listed.setIfInBounds i true) a' w') a w
theorem wpAny_of_S {md : Region.Mode} {S : Nat → World → Prop} : ∀ (fuel : Nat) (listed : Array Bool) (a : Act) (w : World), wpAnyS P md ops Q S fuel listed a w → wpAny P md ops Q fuel listed a w
  | 0, _, _, _, h => h
  | fuel + 1, _, _, _, h => ⟨h.1, fun i hi => wpOp_mono (fun a' w' h' => wpAny_of_S fuel _ a' w' h'.2) (h.2 i hi)⟩
/-- Those that are not 'before' wait for operation i. -/
def waits (md : Region.Mode) (ops : Array Oper) (i : Nat) (before : Nat → Bool) : Bool := (List.range ops.size).all fun j => match ops[j]? with
  | none => true
  | some o => before j || o.after.any fun e => Region.binds md e && (e.on == i || !before e.on)
theorem wpAnyS_first {md : Region.Mode} {S : Nat → World → Prop} {S0 : World → Prop} {i : Nat} {oi : Oper} {v : Value} (before : Nat → Bool) (hi : ops[i]? = some oi) (hsel : ∀ (j : Nat) (o : Oper) cs b, ops[j]? = some o → o.op ≠ .select cs b)
    (hw : waits md ops i before = true) (hS : ∀ j w, before j = true → S j w → S0 w) (hSi : ∀ w, S0 w → S i w)
    (hQ : ∀ c a w, Q (.panic c) (a.put oi.dst v) w → Q (.panic c) a w) :
    ∀ (fuel : Nat) (listed : Array Bool) (a : Act) (w : World),
      (∀ j oj, ops[j]? = some oj → j ≠ i → listed.getD j true = false → (∀ e ∈ oj.after, Region.binds md e = true → e.on ≠ i) → oi.apart ops oj = true) →
      (∀ j, before j = false → listed.getD j false = false) →
      i ∈ Region.ready md ops listed → YieldsIf P ops S0 oi v a → S0 w →
      wpAnyS P md ops Q S fuel (listed.setIfInBounds i true) (a.put oi.dst v) w → wpAnyS P md ops Q S (fuel + 1) listed a w := by
  intro fuel
  induction fuel with
  | zero =>
    intro listed a w _ _ hr hy hs H
    refine ⟨fun h => (by rw [h] at hr; cases hr), fun j hj => ?_⟩
    by_cases hji : j = i
    · subst hji; exact hy.wpOp hi hs ⟨hSi w hs, H⟩
    · have := ready_mono hj hji
      rw [H.1] at this
      cases this
  | succ fuel ih =>
    intro listed a w hfree hbef hr hy hs H
    refine ⟨fun h => (by rw [h] at hr; cases hr), fun j hj => ?_⟩
    by_cases hji : j = i
    · subst hji; exact hy.wpOp hi hs ⟨hSi w hs, H⟩
    · have h1 := H.2 j (ready_mono hj hji)
      obtain ⟨hjun, oj, hoj, hall⟩ := mem_ready.1 hj
      have hiun : listed.getD i false = false := by
        have h0 := (mem_ready.1 hr).1
        rcases Nat.lt_or_ge i listed.size with h' | h'
        · simpa [h'] using h0
        · simp [Array.getElem?_eq_none h']
      have hnot : ∀ e ∈ oj.after, Region.binds md e = true → e.on ≠ i := fun e he hb heq => by
        have h1 := hall e he hb
        rw [heq, hiun] at h1
        cases h1
      -- j comes up ahead of i: it is one of those before
      have hbj : before j = true := by
        have h2 := List.all_eq_true.1 hw j (List.mem_range.2 (Array.getElem?_eq_some_iff.1 hoj).1)
        simp only [hoj, Bool.or_eq_true] at h2
        rcases h2 with h2 | h2
        · exact h2
        · rw [← Array.any_toList, List.any_eq_true] at h2
          obtain ⟨e, he, h3⟩ := h2
          simp only [Bool.and_eq_true, Bool.or_eq_true, beq_iff_eq, Bool.not_eq_true'] at h3
          have h4 := hall e (by simpa using he) h3.1
          rcases h3.2 with h5 | h5
          · exact absurd h5 (hnot e (by simpa using he) h3.1)
          · rw [hbef _ h5] at h4
            cases h4
      have h2 := wpOp_putIf hoj (hfree j oj hoj hji hjun hnot) (fun cs b => hsel i oi cs b hi) (fun cs b => hsel j oj cs b hoj) hQ hy h1
      have hfree' : ∀ k ok, ops[k]? = some ok → k ≠ i → (listed.setIfInBounds j true).getD k true = false →
          (∀ e ∈ ok.after, Region.binds md e = true → e.on ≠ i) → oi.apart ops ok = true := fun k ok hk hki hun hno => by
        refine hfree k ok hk hki ?_ hno
        by_cases hjk : j = k
        · subst hjk; exact hjun
        · rw [getD_set_ne true hjk] at hun; exact hun
      have hbef' : ∀ k, before k = false → (listed.setIfInBounds j true).getD k false = false := fun k hk => by
        by_cases hjk : j = k
        · subst hjk; rw [hbj] at hk; cases hk
        · rw [getD_set_ne false hjk]; exact hbef k hk
      refine wpOp_mono (fun a' w' h3 => ⟨h3.2.1, ih (listed.setIfInBounds j true) a' w' hfree' hbef' (ready_mono hr (Ne.symm hji)) h3.1 (hS j w' hbj h3.2.1) ?_⟩) h2
      rw [Array.setIfInBounds_comm _ _ hji]
      exact h3.2.2
/-- Operation i is taken first, though others, that wait for it, may write what it reads. -/
theorem wpAnyS_take {md : Region.Mode} {S : Nat → World → Prop} {S0 : World → Prop} {i : Nat} {oi : Oper} {v : Value} {fuel : Nat} {listed : Array Bool} {a : Act} {w : World} (before : Nat → Bool) (hi : ops[i]? = some oi)
    (hs : Region.noSelect ops = true) (hf : Region.free md ops listed i = true) (hr : (Region.ready md ops listed).contains i = true) (hw : waits md ops i before = true) (hb : ∀ j, before j = false → listed.getD j false = false)
    (hS : ∀ j w, before j = true → S j w → S0 w) (hSi : ∀ w, S0 w → S i w) (hQ : ∀ c a w, Q (.panic c) (a.put oi.dst v) w → Q (.panic c) a w) (hy : YieldsIf P ops S0 oi v a) (h0 : S0 w)
    (h : wpAnyS P md ops Q S fuel (listed.setIfInBounds i true) (a.put oi.dst v) w) : wpAnyS P md ops Q S (fuel + 1) listed a w :=
  wpAnyS_first before hi (Region.noSelect_spec hs) hw hS hSi hQ fuel listed a w (Region.free_spec hi hf) hb (by simpa using hr) hy h0 h
theorem wpAnyS_one {S : Nat → World → Prop} {md : Region.Mode} (i : Nat) {o : Oper} {fuel : Nat} {listed : Array Bool} {a : Act} {w : World} (hr : Region.ready md ops listed = [i]) (ho : ops[i]? = some o)
    (h : ∀ K : Act → World → Prop, (∀ a' w', S i w' → wpAnyS P md ops Q S fuel (listed.setIfInBounds i true) a' w' → K a' w') → if Region.wanted o (yielded ops a.tmps) = true then Oper.wp P o a w K Q else K (a.put o.dst undef) w) : wpAnyS P md ops Q S (fuel + 1) listed a w :=
  ⟨fun h0 => (by rw [hr] at h0; cases h0), fun j hj => by
    rw [hr] at hj
    obtain rfl : j = i := by simpa using hj
    exact wpOp_of_if ho (h _ (fun a' w' hs hh => ⟨hs, hh⟩))⟩
theorem wpAnyS_done {S : Nat → World → Prop} {md : Region.Mode} {listed : Array Bool} {a : Act} {w : World} (hr : Region.ready md ops listed = []) (h : Q .normal a w) : ∀ fuel, wpAnyS P md ops Q S fuel listed a w
  | 0 => ⟨hr, h⟩
  | _ + 1 => ⟨fun _ => h, by rw [hr]; simp⟩
theorem wpIn_region_S {l : Nat} {id : Nat} {a : Act} {w : World} (hm : P.follows .mixedOrders = true) (hl : ¬ LetsOut Q) (hno : ops.all noOdd = true) (S : Nat → World → Prop)
    (h : wpAnyS P .any ops Q S ops.size (Array.replicate ops.size false) a w.drew) : (Code.region id ops true).wpIn (Fence.wide.inRound l) n P Q a w := by
  rw [Array.all_eq_true_iff_forall_mem] at hno
  exact wpIn_region_any hm (wpAnyIn_of_wpAny hl (fun i o ho => hno o (Array.mem_of_getElem? ho)) _ _ _ _ (wpAny_of_S _ _ _ _ h))
end
end Go.Proofs.YtbedkjmdckgbgaaDoor.P
