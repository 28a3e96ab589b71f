/- FieldJoins: the plain law. Condition: both rows, and all their texts together, are shorter than 2^30. -/
import Derived.Test.YtnafocahllmpiaaDoorJoins
namespace Go.Proofs.YtnafocahllmpiaaDoor.Pure
open Go.RowKit Go.Proofs.YtnafocahllmpiaaDoor.P Go.Proofs.YtnafocahllmpiaaDoorW.PrintWords Go.Proofs.YtnafocahllmpiaaDoorW.PrintLast
theorem texts_loop (z : List ByteArray) (hz : z.length ≤ 9223372036854775806) : ∀ (n i : Nat), n + i = z.length → Ev (fun k => turnbuckleref17_Texts.l0 k z z (i : Int)) true
  | 0, i, hn => by
    have hi : ¬ (i : Int) < (z.length : Int) := by omega
    exact Ev.step (fun k => by rw [turnbuckleref17_Texts.l0, if_neg hi]) (Ev.now _)
  | n + 1, i, hn => by
    have hi : (i : Int) < (z.length : Int) := by omega
    have hw : wrap64 ((i : Int) + 1) = ((i + 1 : Nat) : Int) := by unfold wrap64; omega
    exact Ev.step (fun k => by rw [turnbuckleref17_Texts.l0, if_pos hi, if_pos (Int.natCast_nonneg i), if_pos hi, if_pos rfl, hw]) (texts_loop z hz n (i + 1) (by omega))
theorem texts_ev (z : List ByteArray) (hz : z.length ≤ 9223372036854775806) : Ev (fun k => turnbuckleref17_Texts.f k z z) true := by
  unfold turnbuckleref17_Texts.f
  exact Ev.ifT rfl (texts_loop z hz z.length 0 (by omega))
def tailL : List (List UInt8) → List UInt8
  | [] => []
  | e :: r => [32, 44, 44, 32] ++ e ++ tailL r
theorem joinL_cons : ∀ (e : List UInt8) (r : List (List UInt8)), joinL (e :: r) = e ++ tailL r
  | e, [] => by simp [joinL, tailL]
  | e, e2 :: r => by
    show e ++ ([32, 44, 44, 32] ++ joinL (e2 :: r)) = _
    rw [joinL_cons e2 r]
    simp [tailL]
theorem data_append' (a b : ByteArray) : (a ++ b).data.toList = a.data.toList ++ b.data.toList := by simp
theorem jn_tail : ∀ (r : List ByteArray) (i : Nat) (s : ByteArray), (jn (i + 1) s r).data.toList = s.data.toList ++ tailL (r.map (·.data.toList))
  | [], i, s => by simp [jn, tailL]
  | e :: r, i, s => by
    rw [jn, if_pos (by omega), jn_tail r (i + 1)]
    simp [tailL]
theorem jn_join (x : List ByteArray) : (jn 0 ⟨#[]⟩ x).data.toList = joinL (x.map (·.data.toList)) := by
  cases x with
  | nil => rfl
  | cons e r =>
    rw [jn, if_neg (by omega), jn_tail, List.map_cons, joinL_cons]
    simp
theorem tailL_len : ∀ r : List (List UInt8), (tailL r).length = 4 * r.length + (r.map List.length).sum
  | [] => rfl
  | e :: r => by
    have := tailL_len r
    simp only [tailL, List.length_append, List.length_cons, List.length_nil, List.map_cons, List.sum_cons]
    omega
theorem joinL_len (x : List (List UInt8)) : (joinL x).length ≤ 4 * x.length + (x.map List.length).sum := by
  cases x with
  | nil => exact Nat.le_refl _
  | cons e r =>
    have := tailL_len r
    rw [joinL_cons]
    simp only [List.length_append, List.length_cons, List.map_cons, List.sum_cons]
    omega
theorem elemsL_sum : ∀ (n : Nat) (v : List UInt8), v.length ≤ n → ((elemsL v).map List.length).sum ≤ v.length
  | 0, v, h => by
    obtain rfl : v = [] := List.eq_nil_of_length_eq_zero (by omega)
    exact Nat.le_refl _
  | n + 1, v, h => by
    by_cases hv : v = []
    · subst hv; exact Nat.le_refl _
    · have hlt := scan_lt v hv
      have hs := scan_len false false v
      have ht := trimS_len (scan false false v).1 gaps
      have := elemsL_sum n (scan false false v).2 (by omega)
      rw [elemsL_cons v hv]
      split
      · omega
      · simp only [List.map_cons, List.sum_cons]; omega
theorem elemsOf_sum : ∀ l : List ByteArray, (((elemsOf l).map (·.data.toList)).map List.length).sum ≤ total l
  | [] => Nat.le_refl _
  | v :: r => by
    have h1 := elemsOf_sum r
    have h2 := elemsL_sum _ v.data.toList (Nat.le_refl _)
    have h3 := size_data v
    have e : (elemsOf (v :: r)).map (·.data.toList) = elemsL v.data.toList ++ (elemsOf r).map (·.data.toList) := by
      simp only [elemsOf, List.flatMap_cons, List.map_append, List.map_map]
      congr 1
      exact (List.map_congr_left (fun x _ => data_ofL x)).trans (List.map_id _)
    rw [e]
    simp only [List.map_append, List.sum_append, total, List.map_cons, List.sum_cons] at *
    omega
theorem elemsOf_is (l : List ByteArray) : ∀ e ∈ elemsOf l, IsElem e.data.toList := by
  intro e he
  simp only [elemsOf, List.mem_flatMap, List.mem_map] at he
  obtain ⟨v, _, m, hm, rfl⟩ := he
  rw [data_ofL]
  exact elem_is _ _ (Nat.le_refl _) m hm
theorem join_back (x : List ByteArray) (hx : ∀ e ∈ x, IsElem e.data.toList) (ho : ∀ e ∈ x, opn e = false) : elemsOf [jn 0 ⟨#[]⟩ x] = x := by
  have h := (join_elems (x.map (·.data.toList)) (fun m hm => by
    obtain ⟨e, he, rfl⟩ := List.mem_map.1 hm
    exact ⟨hx e he, ho e he⟩)).1
  simp only [elemsOf, List.flatMap_cons, List.flatMap_nil, List.append_nil]
  rw [jn_join, h, List.map_map]
  exact (List.map_congr_left (fun x _ => ofL_data x)).trans (List.map_id _)
theorem both {α β : Type} {g : Nat → Option α} {f : Nat → Option β} {a : α} {b : β} (h : Ev g a) (k : Ev f b) : ∃ K, ∀ n, K ≤ n → g n = some a ∧ f n = some b := by
  obtain ⟨K, h⟩ := h
  obtain ⟨K', k⟩ := k
  exact ⟨max K K', fun n hn => ⟨h n (by omega), k n (by omega)⟩⟩
theorem joins_law (A0 A1 : Option Addr) (c0 c1 : Nat) (l0 l1 : List ByteArray) (w : World) (hr0 : Kd.C Kd.string w A0 l0.length l0) (hc0 : l0.length ≤ c0) (hr1 : Kd.C Kd.string w A1 l1.length l1) (hc1 : l1.length ≤ c1)
    (h0 : total l0 + l0.length ≤ 1073741824) (h1 : total l1 + l1.length ≤ 1073741824) :
    Calls Tryd.prog 3 #[.slice A0 l0.length c0, .slice A1 l1.length c1] w fun e w' => e = .returned (.bool true) ∧ Below w.heap.size w w' := by
  have ht : total (l0 ++ l1) = total l0 + total l1 := by simp [total]
  have hx := elements_ev l0 (by omega) (by omega)
  have hy := elements_ev l1 (by omega) (by omega)
  have hall := elements_ev (l0 ++ l1) (by simp; omega) (by omega)
  have e : elemsOf (l0 ++ l1) = elemsOf l0 ++ elemsOf l1 := by simp [elemsOf]
  rw [e] at hall
  have lx := elemsOf_len l0
  have ly := elemsOf_len l1
  have htx := texts_ev (elemsOf l0 ++ elemsOf l1) (by simp; omega)
  have ht1 := texts_ev (elemsOf l0) (by omega)
  have hsum := elemsOf_sum l0
  have hjs : (jn 0 ⟨#[]⟩ (elemsOf l0)).size ≤ 5 * 1073741824 := by
    rw [size_data, jn_join]
    have := joinL_len ((elemsOf l0).map (·.data.toList))
    rw [List.length_map] at this
    omega
  have hj := elements_ev [jn 0 ⟨#[]⟩ (elemsOf l0)] (by simp) (by rw [one_total]; omega)
  obtain ⟨K1, a1⟩ := both hx hy
  obtain ⟨K2, a2⟩ := both hall htx
  obtain ⟨K3, a3⟩ := both ht1 hj
  obtain ⟨K4, a4⟩ := alive_ev
  have b1 := a1 (K1 + K2 + K3 + K4) (by omega)
  have b2 := a2 (K1 + K2 + K3 + K4) (by omega)
  have b3 := a3 (K1 + K2 + K3 + K4) (by omega)
  have b4 := a4 (K1 + K2 + K3 + K4) (by omega)
  exact joins_any (K1 + K2 + K3 + K4) A0 A1 c0 c1 l0 l1 (elemsOf l0) (elemsOf l1) w hr0 hc0 hr1 hc1 b1.1 b1.2 b2.1 b2.2 b4 (fun ho => by
    have h := b3.2
    rw [join_back _ (elemsOf_is l0) ho] at h
    exact h) b3.1 (by omega) (by omega) (by omega)
end Go.Proofs.YtnafocahllmpiaaDoor.Pure
