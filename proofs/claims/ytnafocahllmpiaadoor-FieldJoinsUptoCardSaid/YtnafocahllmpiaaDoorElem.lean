/- Plain laws: the elements of values, told on lists of bytes. Condition: the values are together shorter than 2^42 bytes. -/
import Derived.Test.YtnafocahllmpiaaDoorPureA
namespace Go.Proofs.YtnafocahllmpiaaDoor.Pure
open Go.RowKit Go.Proofs.YtnafocahllmpiaaDoor.P Go.Proofs.YtnafocahllmpiaaDoorW.PrintWords Go.Proofs.YtnafocahllmpiaaDoorW.PrintLast
/-- A value's first element and what comes behind its comma. -/
def scan : Bool → Bool → List UInt8 → List UInt8 × List UInt8
  | _, _, [] => ([], [])
  | q, s, c :: r =>
    if s = true then (c :: (scan q false r).1, (scan q false r).2)
    else if q = true ∧ c = 92 then (c :: (scan q true r).1, (scan q true r).2)
    else if c = 34 then (c :: (scan (!q) false r).1, (scan (!q) false r).2)
    else if c = 44 ∧ q = false then ([], r)
    else (c :: (scan q false r).1, (scan q false r).2)
theorem scan_len : ∀ (q s : Bool) (l : List UInt8), (scan q s l).1.length + (scan q s l).2.length ≤ l.length
  | _, _, [] => Nat.le_refl _
  | q, s, c :: r => by
    have h1 := scan_len q false r
    have h2 := scan_len q true r
    have h3 := scan_len (!q) false r
    unfold scan
    repeat' split
    all_goals simp only [List.length_cons, List.length_nil]
    all_goals omega
theorem scan_lt (l : List UInt8) (h : l ≠ []) : (scan false false l).2.length < l.length := by
  cases l with
  | nil => exact absurd rfl h
  | cons c r =>
    have h1 := scan_len false false r
    have h2 := scan_len false true r
    have h3 := scan_len true false r
    unfold scan
    repeat' split
    all_goals simp only [List.length_cons, Bool.not_false]
    all_goals omega
def ofL (l : List UInt8) : ByteArray := ⟨l.toArray⟩
theorem ofL_data (s : ByteArray) : ofL s.data.toList = s := by cases s; simp [ofL]
theorem data_ofL (l : List UInt8) : (ofL l).data.toList = l := by simp [ofL]
theorem bt_get (x : ByteArray) (i : Nat) (hi : i < x.data.toList.length) : bt x (i : Int) = ((x.data.toList[i]).toNat : Int) := by
  have hl := size_data x
  have h : ((i : Int)).toNat < x.size := by omega
  rw [← bt_at x i h]
  rfl
theorem next_ev (x : ByteArray) (hx : x.size ≤ 140737488355328) : ∀ (n i : Nat) (q s : Bool), n + i = x.size →
    Ev (fun k => field_next.l0 k x q s (x.size : Int) (i : Int)) (ofL (x.data.toList.take i ++ (scan q s (x.data.toList.drop i)).1), ofL (scan q s (x.data.toList.drop i)).2)
  | 0, i, q, s, hn => by
    have hi : ¬ (i : Int) < (x.size : Int) := by omega
    have hl := size_data x
    have e : Ev (fun k => field_next.l0 k x q s (x.size : Int) (i : Int)) (x, ⟨#[]⟩) := Ev.step (fun k => by rw [field_next.l0, if_neg hi]) (Ev.now _)
    rw [List.drop_of_length_le (by omega), List.take_of_length_le (by omega)]
    simp only [scan, List.append_nil, ofL_data]
    exact e
  | n + 1, i, q, s, hn => by
    have hi : (i : Int) < (x.size : Int) := by omega
    have hl := size_data x
    have hi' : i < x.data.toList.length := by omega
    have hw : wrap64 ((i : Int) + 1) = ((i + 1 : Nat) : Int) := by unfold wrap64; omega
    have hb := bt_get x i hi'
    have ih := fun q s => next_ev x hx n (i + 1) q s (by omega)
    have htk : x.data.toList.take (i + 1) = x.data.toList.take i ++ [x.data.toList[i]] := by rw [List.take_succ_eq_append_getElem hi']
    have h1 : (x.extract 0 ((i : Int)).toNat) = ofL (x.data.toList.take i) := by
      rw [← ofL_data (x.extract 0 ((i : Int)).toNat), Int.toNat_natCast, Lib.extract_data]; simp
    have h2 : (x.extract (((i + 1 : Nat) : Int)).toNat x.size) = ofL (x.data.toList.drop (i + 1)) := by
      rw [← ofL_data (x.extract (((i + 1 : Nat) : Int)).toNat x.size), Int.toNat_natCast, Lib.extract_data, List.take_of_length_le (by rw [List.length_drop]; omega)]
    rw [List.drop_eq_getElem_cons hi']
    generalize x.data.toList[i] = c at hb htk
    generalize hr : x.data.toList.drop (i + 1) = r at ih h2
    have fin : ∀ q' s', scan q s (c :: r) = (c :: (scan q' s' r).1, (scan q' s' r).2) → Ev (fun k => field_next.l0 k x q' s' (x.size : Int) ((i + 1 : Nat) : Int)) (ofL (x.data.toList.take i ++ (scan q s (c :: r)).1), ofL (scan q s (c :: r)).2) := by
      intro q' s' e
      have := ih q' s'
      rw [htk, List.append_assoc] at this
      rw [e]
      exact this
    by_cases hs : s = true
    · subst hs
      exact Ev.step (fun k => by rw [field_next.l0, if_pos hi, if_pos (Int.natCast_nonneg i), if_pos hi, if_pos rfl, hw]) (fin q false (by simp [scan]))
    rw [Bool.not_eq_true] at hs
    subst hs
    have back : Ev (fun k => field_next.j1 k x q false (i : Int) (bt x (i : Int)) (x.size : Int) (i : Int) (q && (bt x (i : Int) == 92))) (ofL (x.data.toList.take i ++ (scan q false (c :: r)).1), ofL (scan q false (c :: r)).2) := by
      rw [hb]
      by_cases h92 : q = true ∧ c = 92
      · obtain ⟨rfl, rfl⟩ := h92
        exact Ev.step (fun k => by rw [field_next.j1, if_pos (by decide), hw]) (fin true true (by simp [scan]))
      have n92 : ¬ (q && ((c.toNat : Int) == 92)) = true := by
        intro h
        simp only [Bool.and_eq_true, beq_iff_eq] at h
        exact h92 ⟨h.1, UInt8.toNat_inj.1 (by have := h.2; show c.toNat = 92; omega)⟩
      by_cases h34 : c = 34
      · subst h34
        exact Ev.step (fun k => by rw [field_next.j1, if_neg n92, if_pos (by decide), hw]) (fin (!q) false (by simp [scan]))
      have n34 : ¬ (c.toNat : Int) = 34 := fun h => h34 (UInt8.toNat_inj.1 (by show c.toNat = 34; omega))
      by_cases h44 : c = 44
      · subst h44
        cases q with
        | true => exact Ev.step (fun k => by rw [field_next.j1, if_neg n92, if_neg n34, if_pos (by decide), if_pos rfl, hw]) (fin true false (by simp [scan]))
        | false =>
          have e : scan false false (44 :: r) = ([], r) := by simp [scan]
          rw [e, List.append_nil, ← h1, ← h2]
          exact Ev.step (fun k => by rw [field_next.j1, if_neg n92, if_neg n34, if_pos (by decide), if_neg (by decide), if_pos (Int.natCast_nonneg i), if_pos (by omega), hw, if_pos (by omega), if_pos (by omega)]) (Ev.now _)
      have n44 : ¬ (c.toNat : Int) = 44 := fun h => h44 (UInt8.toNat_inj.1 (by show c.toNat = 44; omega))
      exact Ev.step (fun k => by rw [field_next.j1, if_neg n92, if_neg n34, if_neg n44, hw]) (fin q false (by simp only [scan]; rw [if_neg (by decide), if_neg h92, if_neg h34, if_neg (fun h => h44 h.1)]))
    cases q with
    | true => exact Ev.step (fun k => by rw [field_next.l0, if_pos hi, if_pos (Int.natCast_nonneg i), if_pos hi, if_neg (by decide), if_pos rfl]; rfl) back
    | false => exact Ev.step (fun k => by rw [field_next.l0, if_pos hi, if_pos (Int.natCast_nonneg i), if_pos hi, if_neg (by decide), if_neg (by decide)]; rfl) back
theorem next_total (x : ByteArray) (hx : x.size ≤ 140737488355328) : Ev (fun k => field_next.f k x) (ofL (scan false false x.data.toList).1, ofL (scan false false x.data.toList).2) := by
  have h := next_ev x hx x.size 0 false false (by omega)
  simp only [List.take_zero, List.drop_zero, List.nil_append] at h
  exact h
def gaps : List UInt8 := [32, 9]
/-- A value's elements. -/
def elemsF : Nat → List UInt8 → List (List UInt8)
  | 0, _ => []
  | n + 1, v => if v = [] then [] else if Lib.trimS (scan false false v).1 gaps = [] then elemsF n (scan false false v).2 else Lib.trimS (scan false false v).1 gaps :: elemsF n (scan false false v).2
def elemsL (v : List UInt8) : List (List UInt8) := elemsF v.length v
theorem elemsF_more : ∀ (n m : Nat) (v : List UInt8), v.length ≤ n → v.length ≤ m → elemsF n v = elemsF m v
  | 0, 0, _, _, _ => rfl
  | 0, m + 1, v, h, _ => by
    obtain rfl : v = [] := List.eq_nil_of_length_eq_zero (by omega)
    simp [elemsF]
  | n + 1, 0, v, _, h => by
    obtain rfl : v = [] := List.eq_nil_of_length_eq_zero (by omega)
    simp [elemsF]
  | n + 1, m + 1, v, h, h' => by
    simp only [elemsF]
    by_cases hv : v = []
    · rw [if_pos hv, if_pos hv]
    · have := scan_lt v hv
      rw [if_neg hv, if_neg hv, elemsF_more n m _ (by omega) (by omega)]
theorem elemsL_nil : elemsL [] = [] := rfl
theorem elemsL_cons (v : List UInt8) (hv : v ≠ []) : elemsL v = (if Lib.trimS (scan false false v).1 gaps = [] then elemsL (scan false false v).2 else Lib.trimS (scan false false v).1 gaps :: elemsL (scan false false v).2) := by
  have hlt := scan_lt v hv
  unfold elemsL
  obtain ⟨n, hn⟩ : ∃ n, v.length = n + 1 := ⟨v.length - 1, by have := List.length_pos_iff.2 hv; omega⟩
  rw [hn]
  simp only [elemsF]
  rw [if_neg hv, elemsF_more n _ _ (by omega) (Nat.le_refl _)]
theorem elemsL_len : ∀ (n : Nat) (v : List UInt8), v.length ≤ n → (elemsL v).length ≤ v.length
  | 0, v, h => by
    obtain rfl : v = [] := List.eq_nil_of_length_eq_zero (by omega)
    exact Nat.le_refl _
  | n + 1, v, h => by
    by_cases hv : v = []
    · subst hv; exact Nat.le_refl _
    · have hlt := scan_lt v hv
      have := elemsL_len n (scan false false v).2 (by omega)
      rw [elemsL_cons v hv]
      split
      · omega
      · simp only [List.length_cons]; omega
/-- Each element is no longer than its value. -/
theorem elemsL_size : ∀ (n : Nat) (v : List UInt8), v.length ≤ n → ∀ e ∈ elemsL v, e.length ≤ v.length
  | 0, v, h => by
    obtain rfl : v = [] := List.eq_nil_of_length_eq_zero (by omega)
    intro e he; cases he
  | n + 1, v, h => by
    by_cases hv : v = []
    · subst hv; intro e he; cases he
    · have hlt := scan_lt v hv
      have ih := elemsL_size n (scan false false v).2 (by omega)
      have hs := scan_len false false v
      have ht := trimS_len (scan false false v).1 gaps
      rw [elemsL_cons v hv]
      split
      · intro e he; have := ih e he; omega
      · intro e he
        cases he with
        | head => omega
        | tail _ he => have := ih e he; omega
def elemsOf (vs : List ByteArray) : List ByteArray := vs.flatMap fun v => (elemsL v.data.toList).map ofL
def total (vs : List ByteArray) : Nat := (vs.map ByteArray.size).sum
theorem ofL_nil {l : List UInt8} : (ofL l).toList = [] ↔ l = [] := by rw [toList_data, data_ofL]
/-- One value's rounds. -/
theorem value_ev (vs : List ByteArray) (m : Int) (i : Nat) : ∀ (n : Nat) (v : List UInt8) (out : List ByteArray) (res : List ByteArray), v.length ≤ n → n ≤ 140737488355328 → out.length + v.length < 8796093022208 →
    Ev (fun k => field_Elements.l0 k (out ++ (elemsL v).map ofL) vs m (wrap64 ((i : Int) + 1))) res → Ev (fun k => field_Elements.l1 k out (ofL v) vs m (i : Int)) res
  | 0, v, out, res, hn, _, _, hk => by
    obtain rfl : v = [] := List.eq_nil_of_length_eq_zero (by omega)
    simp only [elemsL_nil, List.map_nil, List.append_nil] at hk
    exact Ev.step (fun k => by rw [field_Elements.l1, if_pos (ofL_nil.2 rfl)]) hk
  | n + 1, v, out, res, hn, hm, ho, hk => by
    by_cases hv : v = []
    · subst hv
      simp only [elemsL_nil, List.map_nil, List.append_nil] at hk
      exact Ev.step (fun k => by rw [field_Elements.l1, if_pos (ofL_nil.2 rfl)]) hk
    · have hlt := scan_lt v hv
      have hsl := scan_len false false v
      have hsz : (ofL v).size ≤ 140737488355328 := by rw [size_data, data_ofL]; omega
      have hnx := next_total (ofL v) hsz
      rw [data_ofL] at hnx
      have hsz1 : (ofL (scan false false v).1).size ≤ 9223372036854775807 := by rw [size_data, data_ofL]; omega
      have htr := trim_some (ofL (scan false false v).1) ⟨#[32, 9]⟩ hsz1 ⟨by decide, by decide⟩
      rw [data_ofL] at htr
      rw [elemsL_cons v hv] at hk
      refine Ev.step (fun k => by rw [field_Elements.l1, if_neg (fun h => hv (ofL_nil.1 h))]) (Ev.bind hnx (Ev.bind (Ev.opt htr) ?_))
      by_cases ht : Lib.trimS (scan false false v).1 gaps = []
      · rw [if_pos ht] at hk
        exact Ev.ifT (ofL_nil.2 ht) (value_ev vs m i n _ out res (by omega) (by omega) (by omega) hk)
      · rw [if_neg ht] at hk
        refine Ev.ifF (fun h => ht (ofL_nil.1 h)) (Ev.bind (Ev.opt htr) (Ev.ifT (by omega) (value_ev vs m i n _ _ res (by omega) (by omega) (by simp; omega) ?_)))
        rw [List.append_assoc]
        exact hk
theorem total_get {vs : List ByteArray} {i : Nat} (h : i < vs.length) : total (vs.drop i) = vs[i].size + total (vs.drop (i + 1)) := by
  rw [List.drop_eq_getElem_cons h]
  simp only [total, List.map_cons, List.sum_cons]
theorem elemsOf_len : ∀ vs : List ByteArray, (elemsOf vs).length ≤ total vs
  | [] => Nat.le_refl _
  | v :: r => by
    have h1 := elemsOf_len r
    have h2 := elemsL_len _ v.data.toList (Nat.le_refl _)
    have h3 := size_data v
    simp only [elemsOf, List.flatMap_cons, List.length_append, List.length_map, total, List.map_cons, List.sum_cons] at *
    omega
theorem elements_loop (vs : List ByteArray) (hvs : vs.length ≤ 9223372036854775806) : ∀ (n i : Nat) (out : List ByteArray), n + i = vs.length → out.length + total (vs.drop i) < 8796093022208 →
    Ev (fun k => field_Elements.l0 k out vs (vs.length : Int) (i : Int)) (out ++ elemsOf (vs.drop i))
  | 0, i, out, hn, _ => by
    have hi : ¬ (i : Int) < (vs.length : Int) := by omega
    rw [List.drop_of_length_le (by omega)]
    simp only [elemsOf, List.flatMap_nil, List.append_nil]
    exact Ev.step (fun k => by rw [field_Elements.l0, if_neg hi]) (Ev.now _)
  | n + 1, i, out, hn, ho => by
    have hi : (i : Int) < (vs.length : Int) := by omega
    have hi' : i < vs.length := by omega
    have hw : wrap64 ((i : Int) + 1) = ((i + 1 : Nat) : Int) := by unfold wrap64; omega
    have e : rdOf ByteArray.empty vs (i : Int) = vs[i] := by simp [rdOf, List.getD_eq_getElem?_getD, List.getElem?_eq_getElem hi']
    have ht := total_get hi'
    have hl := size_data vs[i]
    have hle := elemsL_len _ vs[i].data.toList (Nat.le_refl _)
    have ih := elements_loop vs hvs n (i + 1) (out ++ (elemsL vs[i].data.toList).map ofL) (by omega) (by simp only [List.length_append, List.length_map]; omega)
    rw [List.append_assoc] at ih
    have hd : elemsOf (vs.drop i) = (elemsL vs[i].data.toList).map ofL ++ elemsOf (vs.drop (i + 1)) := by rw [List.drop_eq_getElem_cons hi']; rfl
    rw [hd]
    have hv := value_ev vs (vs.length : Int) i vs[i].data.toList.length vs[i].data.toList out _ (Nat.le_refl _) (by omega) (by omega) (by rw [hw]; exact ih)
    rw [ofL_data] at hv
    exact Ev.step (fun k => by rw [field_Elements.l0, if_pos hi, if_pos (Int.natCast_nonneg i), if_pos hi, e]) hv
theorem elements_ev (vs : List ByteArray) (hvs : vs.length ≤ 9223372036854775806) (ht : total vs < 8796093022208) : Ev (fun k => field_Elements.f k vs) (elemsOf vs) := by
  have h := elements_loop vs hvs vs.length 0 [] (by omega) (by simpa using ht)
  simp only [List.drop_zero, List.nil_append] at h
  exact h
end Go.Proofs.YtnafocahllmpiaaDoor.Pure
