/- field.Tag: which texts are tags. Condition: the text is shorter than 2^47 bytes (tested by its function). -/
import Derived.Test.YtnafocahllmpiaaDoorExtB
import Derived.Test.YtnafocahllmpiaaDoorShelf
import Derived.Lib.Hide
namespace Go.Proofs.YtnafocahllmpiaaDoor.P
open Go.RowKit Go.Proofs.YtnafocahllmpiaaDoorW.PrintWords
def tagByte (n : Nat) : Bool := decide (33 ≤ n) && decide (n ≤ 126) && !(n == 34)
def quotedOk (t : ByteArray) : Bool := decide (2 ≤ t.size) && (byteAt t 0 == 34) && (byteAt t (t.size - 1) == 34) && (List.range (t.size - 2)).all (fun j => tagByte (byteAt t (j + 1)))
def tagText (s : ByteArray) : ByteArray := ⟨(Lib.trimPrefix s.data.toList [87, 47]).toArray⟩
def tagWeak (s : ByteArray) : Bool := Lib.hasPrefix s.data.toList [87, 47]
def tagIs (s : ByteArray) : Bool := decide (s.size ≤ 512) && quotedOk (tagText s)
def field_Tag.f (a0 : ByteArray) : Option (ByteArray × Bool × Bool) :=
  if a0.size ≤ 140737488355328 then some (if tagIs a0 = true then (tagText a0, tagWeak a0, true) else (⟨#[]⟩, false, false)) else none
theorem byteAt_get (t : ByteArray) (j : Nat) (h : j < t.size) : (t[j]'h).toNat = byteAt t j := by
  have h' : j < t.data.toList.length := by rw [data_length]; exact h
  simp [byteAt, List.getD_eq_getElem?_getD, List.getElem?_eq_getElem h']
  rfl
theorem byteAt_mid (t : ByteArray) (j : Nat) (h : j < t.size - 2) : byteAt (t.extract 1 (t.size - 1)) j = byteAt t (j + 1) := by
  have e : (t.extract 1 (t.size - 1)).data.toList = (t.data.toList.take (t.size - 1)).drop 1 := by
    rw [Lib.extract_data]
    simp [List.drop_take]
  unfold byteAt
  rw [e]
  simp only [List.getD_eq_getElem?_getD, List.getElem?_drop, List.getElem?_take]
  rw [if_pos (by omega), Nat.add_comm]
theorem tagText_le (s : ByteArray) : (tagText s).size ≤ s.size := by
  show (Lib.trimPrefix s.data.toList [87, 47]).toArray.size ≤ s.data.size
  unfold Lib.trimPrefix
  split <;> simp
/-- What it answers, of the text t and of 'weak'. -/
def TagPost (s t : ByteArray) (wk : Bool) (e : Ending) : Prop :=
  e = .returned (if (decide (s.size ≤ 512) && quotedOk t) = true then .tuple #[.string t, .bool wk, .bool true] else .tuple #[.string ⟨#[]⟩, .bool false, .bool false])
theorem tagPost_no {s t : ByteArray} {wk : Bool} (h : (decide (s.size ≤ 512) && quotedOk t) = false) : TagPost s t wk (.returned (.tuple #[.string ⟨#[]⟩, .bool false, .bool false])) := by
  unfold TagPost; rw [h]; rfl
theorem tagPost_yes {s t : ByteArray} {wk : Bool} (h : (decide (s.size ≤ 512) && quotedOk t) = true) : TagPost s t wk (.returned (.tuple #[.string t, .bool wk, .bool true])) := by
  unfold TagPost; rw [h]; rfl
set_option maxHeartbeats 800000 in
set_option maxRecDepth 100000 in
theorem tag_any (s t : ByteArray) (wk : Bool) (w : World) (hs : s.size ≤ 140737488355328) (ht : t.size ≤ s.size)
    (hc : ∀ w, Calls Tryd.prog 20 #[.string s, .string ⟨#[87, 47]⟩] w fun e w' => e = .returned (.tuple #[.string t, .bool wk]) ∧ w = w') :
    Calls Tryd.prog 10 #[.string s] w fun e w' => TagPost s t wk e ∧ Below w.heap.size w w' := by
  have kb := fun s W => print_bytes (P := Tryd.prog) 9 56 5 Tryd.underlying9 Tryd.underlying56 Tryd.underlying5 s W
  go_enter Tryd.func10, Tryd.ntmps10
  go_wp2_with (go_at_call 20; refine (hc _).mono ?_; rintro e w' ⟨rfl, rfl⟩)
  · rename_i h1 h2 h3 h4 h5 h6
    have hn : (byteAt t (t.size - 1) == 34) = false := by
      rcases h6 with h6 | h6
      · omega
      · rw [bne_iff_ne, byteAt_get t _ (by omega)] at h6
        rw [beq_eq_false_iff_ne]
        omega
    exact bodyPost_ret (v := .tuple #[.string ⟨#[]⟩, .bool false, .bool false]) (by simp [results, Tryd.results10, go_sem]) rfl ⟨tagPost_no (by simp [quotedOk, hn]), Below.refl _ _⟩
  · rename_i h1 h2 h3 h4 h5 h6 _ _
    have hz : (t.extract 1 (t.size - 1)).size = t.size - 2 := by simp [ByteArray.size_extract]; omega
    have hcell : ∀ j, j < t.size - 2 → (Lib.bytesWorld w 5 (t.extract 1 (t.size - 1))).cell? ⟨w.heap.size, j, none⟩ = some (.int .u8 (byteAt t (j + 1))) := fun j hj => by
      rw [Lib.bytesWorld_cell w 5 _ j (by omega), ← byteAt_mid t j hj]; rfl
    have hbel : Below w.heap.size w (Lib.bytesWorld w 5 (t.extract 1 (t.size - 1))) := bytes_below (Below.refl _ _) (Nat.le_refl _) _ _
    have hl : byteAt t (t.size - 1) = 34 := by
      have h7 := h6.2
      rw [bne_eq_false_iff_eq, byteAt_get t _ (by omega)] at h7
      omega
    have hf : byteAt t 0 = 34 := by rw [← byteAt_get t 0 (by omega)]; omega
    have HL := Lib.hid hl
    have HF := Lib.hid hf
    have HB := Lib.hid hbel
    have h2' : 2 ≤ t.size := by omega
    have h1' : s.size ≤ 512 := by omega
    clear hl hf hbel h6
    have HC := Lib.hid hcell
    clear hcell
    generalize Lib.bytesWorld w 5 (t.extract 1 (t.size - 1)) = W1 at *
    have hn2 : t.size - 2 + 2 ≤ t.size := by omega
    go_loop [42] (fun i => ∃ k : Nat, k ≤ t.size - 2 ∧ i = .int .i64 k ∧ Hid (∀ j, j < k → tagByte (byteAt t (j + 1)) = true)) (fun i => t.size - (intOf i).toNat)
    case atStart => exact ⟨0, Nat.zero_le _, rfl, Lib.hid (fun j hj => by omega)⟩
    case round =>
      obtain ⟨k, hk, rfl, hall⟩ := hrel
      by_cases hlt : k < t.size - 2
      · have hcell := HC.out k hlt
        have hb := byteAt_le t (k + 1)
        have hno : (¬ (33 ≤ byteAt t (k + 1)) ∨ ¬ (byteAt t (k + 1) ≤ 126) ∨ byteAt t (k + 1) = 34) → (decide (s.size ≤ 512) && quotedOk t) = false := fun h => by
          have hx : (List.range (t.size - 2)).all (fun j => tagByte (byteAt t (j + 1))) = false := by
            rw [List.all_eq_false]
            refine ⟨k, List.mem_range.2 hlt, ?_⟩
            simp only [tagByte, Bool.and_eq_true, decide_eq_true_eq, Bool.not_eq_true', beq_eq_false_iff_ne]
            omega
          simp [quotedOk, hx]
        have HN := Lib.hid hno
        clear hno
        go_wp2
        · rename_i g1 g2 g3 g4 _
          refine bodyPost_ret (v := .tuple #[.string ⟨#[]⟩, .bool false, .bool false]) (by simp [results, Tryd.results10, go_sem]) rfl ⟨tagPost_no (HN.out ?_), HB.out⟩
          rcases g4 with g4 | g4
          · omega
          · right; right
            rw [beq_iff_eq] at g4
            omega
        · have g4 : (33 ≤ ((byteAt t (k + 1) : Nat) : Int) ∧ ((byteAt t (k + 1) : Nat) : Int) ≤ 126) ∧ (((byteAt t (k + 1) : Nat) : Int) == 34) = false := by assumption
          go_round
          case measure => simp [intOf]; omega
          refine ⟨k + 1, by omega, by go_num, Lib.hid fun j hj => ?_⟩
          by_cases e : j = k
          · subst e
            have g5 := g4.2
            rw [beq_eq_false_iff_ne] at g5
            simp only [tagByte, Bool.and_eq_true, decide_eq_true_eq, Bool.not_eq_true', beq_eq_false_iff_ne]
            omega
          · exact hall.out j (by omega)
        · refine bodyPost_ret (v := .tuple #[.string ⟨#[]⟩, .bool false, .bool false]) (by simp [results, Tryd.results10, go_sem]) rfl ⟨tagPost_no (HN.out ?_), HB.out⟩
          omega
        · refine bodyPost_ret (v := .tuple #[.string ⟨#[]⟩, .bool false, .bool false]) (by simp [results, Tryd.results10, go_sem]) rfl ⟨tagPost_no (HN.out ?_), HB.out⟩
          omega
      · go_wp2
        refine bodyPost_ret (v := .tuple #[.string t, .bool wk, .bool true]) (by simp [results, Tryd.results10, go_sem]) rfl ⟨tagPost_yes ?_, HB.out⟩
        have hx : (List.range (t.size - 2)).all (fun j => tagByte (byteAt t (j + 1))) = true := by
          rw [List.all_eq_true]
          exact fun j hj => hall.out j (by have := List.mem_range.1 hj; omega)
        simp [quotedOk, hx, HL.out, HF.out, h1', h2']
  · rename_i h1 h2 h3 h4
    have hn : (byteAt t 0 == 34) = false := by
      rw [beq_eq_false_iff_ne, ← byteAt_get t 0 (by omega)]
      omega
    exact bodyPost_ret (v := .tuple #[.string ⟨#[]⟩, .bool false, .bool false]) (by simp [results, Tryd.results10, go_sem]) rfl ⟨tagPost_no (by simp [quotedOk, hn]), Below.refl _ _⟩
  · exact bodyPost_ret (v := .tuple #[.string ⟨#[]⟩, .bool false, .bool false]) (by simp [results, Tryd.results10, go_sem]) rfl ⟨tagPost_no (by simp [quotedOk]; omega), Below.refl _ _⟩
  · exact bodyPost_ret (v := .tuple #[.string ⟨#[]⟩, .bool false, .bool false]) (by simp [results, Tryd.results10, go_sem]) rfl ⟨tagPost_no (by simp; omega), Below.refl _ _⟩
theorem field_Tag.calls (a0 r1 : ByteArray) (r2 r3 : Bool) (w : World) (h : field_Tag.f a0 = some (r1, r2, r3)) :
    Calls Tryd.prog 10 #[.string a0] w fun e w' => e = .returned (.tuple #[.string r1, .bool r2, .bool r3]) ∧ Below w.heap.size w w' := by
  unfold field_Tag.f at h
  split at h
  case isFalse => cases h
  rename_i hs
  have hr := Option.some.inj h
  refine (tag_any a0 (tagText a0) (tagWeak a0) w hs (tagText_le a0) (fun w => (Tryd.strings_CutPrefix a0 ⟨#[87, 47]⟩ w).mono fun e w' ⟨he, hw⟩ => ⟨he, hw.symm⟩)).mono fun e w' ⟨he, hb⟩ => ⟨?_, hb⟩
  unfold TagPost at he
  rw [he]
  unfold tagIs at hr
  split at hr
  · rename_i hc
    rw [if_pos hc]
    simp only [Prod.mk.injEq] at hr
    obtain ⟨rfl, rfl, rfl⟩ := hr
    rfl
  · rename_i hc
    rw [if_neg hc]
    simp only [Prod.mk.injEq] at hr
    obtain ⟨rfl, rfl, rfl⟩ := hr
    rfl
end Go.Proofs.YtnafocahllmpiaaDoor.P
