/- field.small: a text in small letters, byte by byte. Condition: the text is shorter than 2^63 bytes (tested by its function). -/
import Derived.Test.YtnafocahllmpiaaDoorPx0
import Derived.Lib.ConvBytes
import Derived.WalkSpells
namespace Go.Proofs.YtnafocahllmpiaaDoor.P
open Go.RowKit Go.Proofs.YtnafocahllmpiaaDoorW.PrintWords
/-- A byte made small. -/
def lowN (c : Nat) : Int := if 65 ≤ c ∧ c ≤ 90 then (c : Int) + 32 else c
def byteAt (s : ByteArray) (j : Nat) : Nat := (s.data.toList.getD j 0).toNat
theorem byteAt_le (s : ByteArray) (j : Nat) : byteAt s j ≤ 255 := by have := (s.data.toList.getD j 0).toNat_lt; unfold byteAt; omega
/-- Cell j of a text after k bytes have been made small. -/
def lowAt (s : ByteArray) (k j : Nat) : Int := if j < k then lowN (byteAt s j) else byteAt s j
structure LowRel (s : ByteArray) (w0 : World) (B k : Nat) (wr : World) : Prop where
  cell : ∀ j, j < s.size → wr.cell? ⟨B, j, none⟩ = some (.int .u8 (lowAt s k j))
  free : ∀ j, j < s.size → wr.frozen? ⟨B, j, none⟩ = false
  below : Below w0.heap.size w0 wr
theorem lowRel_start (s : ByteArray) (w : World) (e : TypeId) : LowRel s w w.heap.size 0 (Lib.bytesWorld w e s) := by
  refine ⟨fun j hj => ?_, fun j hj => ?_, bytes_below (Below.refl _ _) (Nat.le_refl _) e s⟩
  · rw [Lib.bytesWorld_cell w e s j hj]; simp [lowAt, byteAt]
  · have h := Lib.bytesWorld_at_new w e s
    have hz : s.size ≤ (Lib.bytesCells w e s).size := by simp [Lib.bytesCells]
    simp only [World.frozen?, h]
    simp
    omega
theorem lowRel_skip {s : ByteArray} {w : World} {B k : Nat} {wr : World} (h : LowRel s w B k wr) (hc : ¬ (65 ≤ byteAt s k ∧ byteAt s k ≤ 90)) : LowRel s w B (k + 1) wr := by
  refine ⟨fun j hj => ?_, h.free, h.below⟩
  rw [h.cell j hj]
  by_cases e : j = k
  · subst e; simp [lowAt, lowN, hc]
  · have : (j < k + 1) = (j < k) := by simp; omega
    simp [lowAt, this]
theorem lowRel_put {s : ByteArray} {w : World} {k : Nat} {wr : World} (h : LowRel s w w.heap.size k wr) (hk : k < s.size) (hc : 65 ≤ byteAt s k ∧ byteAt s k ≤ 90) {v : Int} (hv : v = byteAt s k + 32) :
    LowRel s w w.heap.size (k + 1) (wr.setCell ⟨w.heap.size, k, none⟩ (.int .u8 v)) := by
  subst hv
  refine ⟨fun j hj => ?_, fun j hj => ?_, h.below.setCell (Nat.le_refl _) _⟩
  · by_cases e : j = k
    · subst e
      rw [World.cell?_setCell_same wr _ _ (h.cell j hj)]
      simp [lowAt, lowN, hc]
    · rw [World.cell?_setCell_other wr _ _ _ (by intro e2; injection e2 with _ e2; omega), h.cell j hj]
      have : (j < k + 1) = (j < k) := by simp; omega
      simp [lowAt, this]
  · rw [World.frozen?_setCell]; exact h.free j hj
def smallNums (s : ByteArray) : List Int := (List.range s.size).map fun j => lowN (byteAt s j)
theorem lowRel_reads {s : ByteArray} {w : World} {B : Nat} {wr : World} (h : LowRel s w B s.size wr) (hs : s.size ≤ 9223372036854775807) : ReadsInt wr .u8 (some ⟨B, 0, none⟩) s.size (smallNums s) := by
  refine ⟨by simp [smallNums], hs, fun _ => ⟨_, rfl, fun j hj => ?_⟩⟩
  rw [add_plain, h.cell j hj]
  simp [lowAt, hj, smallNums]
/-- A byte made small, as a byte. -/
def lowB (c : UInt8) : UInt8 := if 65 ≤ c ∧ c ≤ 90 then c + 32 else c
def smallS (s : ByteArray) : ByteArray := ⟨(s.data.toList.map lowB).toArray⟩
theorem lowB_toNat (c : UInt8) : UInt8.ofNat (lowN c.toNat).toNat = lowB c := by
  have h := c.toNat_lt
  unfold lowN lowB
  have e : (65 ≤ c ∧ c ≤ 90) ↔ (65 ≤ c.toNat ∧ c.toNat ≤ 90) := by rw [UInt8.le_iff_toNat_le, UInt8.le_iff_toNat_le]; exact Iff.rfl
  by_cases hc : 65 ≤ c.toNat ∧ c.toNat ≤ 90
  · rw [if_pos hc, if_pos (e.2 hc)]
    apply UInt8.toNat.inj
    rw [UInt8.toNat_add]
    simp
    omega
  · rw [if_neg hc, if_neg (fun h => hc (e.1 h))]
    simp
theorem smallNums_eq (s : ByteArray) : strOfNums (smallNums s) = smallS s := by
  unfold strOfNums smallNums smallS
  congr 2
  rw [List.map_map]
  apply List.ext_getElem
  · simp
  · intro i h1 h2
    have hi : i < s.data.toList.length := by simpa using h2
    simp only [List.getElem_map, List.getElem_range, Function.comp]
    rw [show byteAt s i = (s.data.toList[i]).toNat by simp [byteAt, List.getD_eq_getElem?_getD, List.getElem?_eq_getElem hi]]
    exact lowB_toNat _
def field_small.f (a0 : ByteArray) : Option ByteArray := if a0.size ≤ 140737488355328 then some (smallS a0) else none
set_option maxHeartbeats 400000 in
set_option maxRecDepth 100000 in
theorem field_small.calls (a0 r : ByteArray) (w : World) (h : field_small.f a0 = some r) :
    Calls Tryd.prog 17 #[.string a0] w fun e w' => e = .returned (.string r) ∧ Below w.heap.size w w' := by
  unfold field_small.f at h
  split at h
  case isFalse => cases h
  rename_i hs
  obtain rfl := Option.some.inj h
  clear h
  rw [← smallNums_eq]
  have kb := fun W => print_bytes (P := Tryd.prog) 9 56 5 Tryd.underlying9 Tryd.underlying56 Tryd.underlying5 a0 W
  have hst := lowRel_start a0 w 5
  go_enter Tryd.func17, Tryd.ntmps17
  go_wp2
  go_loopw [10] (fun i wr => ∃ k : Nat, k ≤ a0.size ∧ i = .int .i64 k ∧ LowRel a0 w w.heap.size k wr) (fun i _ => a0.size - (intOf i).toNat)
  case atStart => exact ⟨0, Nat.zero_le _, rfl, hst⟩
  case round =>
    clear hst
    obtain ⟨k, hk, rfl, hr⟩ := hrel
    by_cases hlt : k < a0.size
    · have hc := hr.cell k hlt
      have hf := hr.free k hlt
      have hb := byteAt_le a0 k
      have e0 : lowAt a0 k k = byteAt a0 k := by simp [lowAt]
      rw [e0] at hc
      clear e0
      go_wp2
      all_goals
        go_round
        case measure => simp [intOf]; omega
      · exact ⟨k + 1, by omega, by go_num, lowRel_put hr hlt ⟨by omega, by omega⟩ (by omega)⟩
      · exact ⟨k + 1, by omega, by go_num, lowRel_skip hr (by omega)⟩
      · exact ⟨k + 1, by omega, by go_num, lowRel_skip hr (by omega)⟩
    · obtain rfl : k = a0.size := by omega
      have hcv := fun c => string_of_reads (P := Tryd.prog) (src := 56) (dst := 9) (e := 5) (c := c) Tryd.underlying56 Tryd.underlying5 Tryd.underlying9 (lowRel_reads hr (by omega))
      go_wp2
      go_ret
      exact ⟨rfl, hr.below⟩
end Go.Proofs.YtnafocahllmpiaaDoor.P
