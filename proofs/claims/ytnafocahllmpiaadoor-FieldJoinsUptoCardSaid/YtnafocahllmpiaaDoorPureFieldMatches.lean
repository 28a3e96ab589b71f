/- FieldMatches: the plain law. Condition: both texts are shorter than 2^42 bytes. -/
import Derived.Test.YtnafocahllmpiaaDoorElem
import Derived.Test.YtnafocahllmpiaaDoorPx10
namespace Go.Proofs.YtnafocahllmpiaaDoor.Pure
open Go.RowKit Go.Proofs.YtnafocahllmpiaaDoor.P Go.Proofs.YtnafocahllmpiaaDoorW.PrintWords Go.Proofs.YtnafocahllmpiaaDoorW.PrintLast
theorem quoted_form {t : ByteArray} (h : quotedOk t = true) : ∃ mid, t.data.toList = 34 :: (mid ++ [34]) ∧ ∀ c ∈ mid, c ≠ 34 := by
  unfold quotedOk at h
  simp only [Bool.and_eq_true, decide_eq_true_eq, beq_iff_eq, List.all_eq_true, List.mem_range] at h
  obtain ⟨⟨⟨h2, h0⟩, hl⟩, hm⟩ := h
  have hs := size_data t
  unfold byteAt at h0 hl hm
  generalize t.data.toList = L at *
  cases L with
  | nil => have : t.size = 0 := hs; omega
  | cons a r =>
    have hr : r ≠ [] := by
      intro e; subst e; have : t.size = 1 := hs; omega
    have ha : a = 34 := UInt8.toNat_inj.1 (by simpa using h0)
    have hlen : r.length = t.size - 1 := by simp at hs; omega
    have hrl : r = r.dropLast ++ [r.getLast hr] := (List.dropLast_concat_getLast hr).symm
    have hlast : r.getLast hr = 34 := by
      apply UInt8.toNat_inj.1
      have e : (a :: r).getD (t.size - 1) 0 = r.getLast hr := by
        rw [List.getD_eq_getElem?_getD, show t.size - 1 = (r.length - 1) + 1 by have := List.length_pos_iff.2 hr; omega, List.getElem?_cons_succ, List.getLast_eq_getElem, List.getElem?_eq_getElem]
        rfl
      rw [e] at hl
      exact hl
    refine ⟨r.dropLast, by rw [ha, ← hlast, ← hrl], fun c hc => ?_⟩
    obtain ⟨j, hj, rfl⟩ := List.getElem_of_mem hc
    have hj' : j < t.size - 2 := by simp at hj; omega
    have h := hm j hj'
    have e : (a :: r).getD (j + 1) 0 = r.dropLast[j] := by
      rw [List.getD_eq_getElem?_getD, List.getElem?_cons_succ, List.getElem?_eq_getElem (by omega), List.getElem_dropLast]
      rfl
    rw [e] at h
    intro e2
    rw [e2] at h
    simp [tagByte] at h
theorem scan_quoted : ∀ (s : Bool) (mid : List UInt8), (∀ c ∈ mid, c ≠ 34) → scan true s (mid ++ [34]) = (mid ++ [34], [])
  | s, [], _ => by cases s <;> simp [scan]
  | s, c :: mid, h => by
    have hc : c ≠ 34 := h c (.head _)
    have ih := fun s => scan_quoted s mid (fun x hx => h x (.tail _ hx))
    cases s with
    | true => simp [scan, ih]
    | false =>
      by_cases h92 : c = 92
      · simp [scan, ih, h92]
      · simp [scan, ih, h92, hc]
theorem trim_ends (a : UInt8) (m : List UInt8) (z : UInt8) (ha : gaps.contains a = false) (hz : gaps.contains z = false) : Lib.trimS (a :: (m ++ [z])) gaps = a :: (m ++ [z]) := by
  have h1 : Lib.trimRightS (a :: (m ++ [z])) gaps = a :: (m ++ [z]) := by
    unfold Lib.trimRightS
    rw [← List.cons_append, List.reverse_append, List.reverse_singleton, List.singleton_append, List.dropWhile_cons, if_neg (by rw [hz]; decide), List.reverse_cons, List.reverse_reverse]
  unfold Lib.trimS
  rw [h1]
  unfold Lib.trimLeftS
  rw [List.dropWhile_cons, if_neg (by rw [ha]; decide)]
theorem tag_elems {a : ByteArray} (h : tagIs a = true) : elemsL a.data.toList = [a.data.toList] := by
  unfold tagIs at h
  simp only [Bool.and_eq_true] at h
  obtain ⟨mid, ht, hm⟩ := quoted_form h.2
  have hq : scan true false (mid ++ [34]) = (mid ++ [34], []) := scan_quoted false mid hm
  have hd : (tagText a).data.toList = Lib.trimPrefix a.data.toList [87, 47] := by simp [tagText]
  rw [hd] at ht
  unfold Lib.trimPrefix at ht
  split at ht
  · rename_i hp
    have e : a.data.toList = 87 :: ((47 :: 34 :: mid) ++ [34]) := by
      have h1 : a.data.toList = [87, 47] ++ a.data.toList.drop 2 := by
        unfold Lib.hasPrefix at hp
        rw [List.isPrefixOf_iff_prefix] at hp
        obtain ⟨r, hr⟩ := hp
        rw [← hr]
        simp
      rw [h1, show ([87, 47] : List UInt8).length = 2 from rfl] at *
      rw [ht]
      simp
    rw [e]
    have hs : scan false false (87 :: ((47 :: 34 :: mid) ++ [34])) = (87 :: ((47 :: 34 :: mid) ++ [34]), []) := by
      simp [scan, hq]
    rw [elemsL_cons _ (by simp), hs, trim_ends 87 (47 :: 34 :: mid) 34 (by decide) (by decide), if_neg (by simp), elemsL_nil]
  · rw [ht]
    have hs : scan false false (34 :: (mid ++ [34])) = (34 :: (mid ++ [34]), []) := by simp [scan, hq]
    rw [elemsL_cons _ (by simp), hs, trim_ends 34 mid 34 (by decide) (by decide), if_neg (by simp), elemsL_nil]
theorem one_total (a : ByteArray) : total [a] = a.size := by simp [total]
def matchAns (x t : ByteArray) (weak : Bool) : Bool := if tagIs t = true then (elemsOf [x]).any (matchP (tagText t) (tagWeak t) weak) else false
theorem match_ev (x t : ByteArray) (weak : Bool) (hx : x.size < 8796093022208) (ht : t.size < 8796093022208) : Ev (fun k => field_Match.f k [x] t weak) (matchAns x t weak) := by
  have he := elements_ev [x] (by simp) (by rw [one_total]; exact hx)
  unfold field_Match.f matchAns
  refine Ev.ifT (by omega) ?_
  by_cases hT : tagIs t = true
  · rw [if_pos hT]
    refine Ev.ifT hT (Ev.bind he (Ev.ifT ?_ (Ev.now _)))
    rw [List.all_eq_true]
    intro e hm
    simp only [elemsOf, List.flatMap_cons, List.flatMap_nil, List.append_nil, List.mem_map] at hm
    obtain ⟨l, hl, rfl⟩ := hm
    have h1 := elemsL_size _ x.data.toList (Nat.le_refl _) l hl
    have h2 := size_data x
    have h3 := size_data (ofL l)
    rw [data_ofL] at h3
    rw [decide_eq_true_eq]
    omega
  · rw [if_neg hT]
    exact Ev.ifF hT (Ev.now _)
theorem matchAns_tag {x t : ByteArray} (hx : tagIs x = true) (weak : Bool) : matchAns x t weak = if tagIs t = true then matchP (tagText t) (tagWeak t) weak x else false := by
  unfold matchAns
  have e : elemsOf [x] = [x] := by simp [elemsOf, tag_elems hx, ofL_data]
  rw [e]
  simp
theorem star_no {x : ByteArray} (hx : tagIs x = true) : (x.toList == [42]) = false := by
  rw [beq_eq_false_iff_ne]
  intro e
  rw [toList_data] at e
  have : x = ofL [42] := by rw [← ofL_data x, e]
  rw [this] at hx
  exact absurd hx (by decide +kernel)
theorem match_sym {x t : ByteArray} (hx : tagIs x = true) (ht : tagIs t = true) (weak : Bool) : matchAns x t weak = matchAns t x weak := by
  rw [matchAns_tag hx, matchAns_tag ht, if_pos ht, if_pos hx]
  unfold matchP
  rw [star_no hx, star_no ht, hx, ht]
  have e : ((tagText x).toList == (tagText t).toList) = ((tagText t).toList == (tagText x).toList) := by
    by_cases h : (tagText x).toList = (tagText t).toList
    · rw [h]
    · rw [beq_eq_false_iff_ne.2 h, beq_eq_false_iff_ne.2 (fun e => h e.symm)]
  rw [e]
  cases tagWeak x <;> cases tagWeak t <;> rfl
theorem match_weak {x t : ByteArray} (h : matchAns x t false = true) : matchAns x t true = true := by
  unfold matchAns at *
  by_cases hT : tagIs t = true
  · rw [if_pos hT, List.any_eq_true] at h
    rw [if_pos hT, List.any_eq_true]
    obtain ⟨e, he, hm⟩ := h
    refine ⟨e, he, ?_⟩
    unfold matchP at *
    revert hm
    cases (e.toList == [42]) <;> cases tagIs e <;> cases ((tagText e).toList == (tagText t).toList) <;> simp
  · rw [if_neg hT] at h
    cases h
theorem matches_ev (a b : ByteArray) (ha : a.size < 8796093022208) (hb : b.size < 8796093022208) (w : List Bool) (hw : w.length ≤ 100) : ∀ (n i : Nat), n + i = w.length →
    Ev (fun k => turnbucklelaw17_FieldMatches.l0 k a b (tagIs a) (tagIs b) w (w.length : Int) (i : Int)) true
  | 0, i, hn => by
    have hi : ¬ (i : Int) < (w.length : Int) := by omega
    refine Ev.step (fun k => by rw [turnbucklelaw17_FieldMatches.l0, if_neg hi]) (Ev.bind (match_ev a b false ha hb) ?_)
    by_cases h : matchAns a b false = true
    · exact Ev.ifT h (Ev.bind (match_ev a b true ha hb) (Ev.ifT (match_weak h) (Ev.bind alive_ev (Ev.now _))))
    · exact Ev.ifF h (Ev.bind alive_ev (Ev.now _))
  | n + 1, i, hn => by
    have hi : (i : Int) < (w.length : Int) := by omega
    have hwr : wrap64 ((i : Int) + 1) = ((i + 1 : Nat) : Int) := by unfold wrap64; omega
    have ih := matches_ev a b ha hb w hw n (i + 1) (by omega)
    refine Ev.step (fun k => by rw [turnbucklelaw17_FieldMatches.l0, if_pos hi, if_pos (Int.natCast_nonneg i), if_pos hi, hwr]) ?_
    by_cases h1 : tagIs a = true
    · refine Ev.ifT h1 ?_
      by_cases h2 : tagIs b = true
      · refine Ev.ifT h2 (Ev.bind (match_ev a b _ ha hb) (Ev.bind (match_ev b a _ hb ha) (Ev.ifF ?_ ih)))
        rw [match_sym h1 h2]
        simp
      · exact Ev.ifF h2 ih
    · exact Ev.ifF h1 ih
theorem FieldMatches (a b : ByteArray) (ha : a.size < 8796093022208) (hb : b.size < 8796093022208) : ∃ k, turnbucklelaw17_FieldMatches.f k a b = some true := by
  refine Ev.rounds (g := fun k => turnbucklelaw17_FieldMatches.f k a b) ?_
  have tag : ∀ x : ByteArray, x.size < 8796093022208 → field_Tag.f x = some (if tagIs x = true then (tagText x, tagWeak x, true) else (⟨#[]⟩, false, false)) := fun x hx => by unfold field_Tag.f; rw [if_pos (by omega)]
  have third : ∀ x : ByteArray, (if tagIs x = true then (tagText x, tagWeak x, true) else ((⟨#[]⟩ : ByteArray), false, false)).2.2 = tagIs x := fun x => by
    cases tagIs x <;> rfl
  unfold turnbucklelaw17_FieldMatches.f
  simp only [tag a ha, tag b hb, Option.bind_some, third]
  exact matches_ev a b ha hb [true, false] (by decide) 2 0 rfl
end Go.Proofs.YtnafocahllmpiaaDoor.Pure
