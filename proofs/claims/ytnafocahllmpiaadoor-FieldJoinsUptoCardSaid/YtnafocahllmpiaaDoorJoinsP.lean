/- Plain laws for FieldJoins: what the elements of a joined text are. -/
import Derived.Test.YtnafocahllmpiaaDoorPureFieldMatches
namespace Go.Proofs.YtnafocahllmpiaaDoor.Pure
open Go.RowKit Go.Proofs.YtnafocahllmpiaaDoor.P Go.Proofs.YtnafocahllmpiaaDoorW.PrintWords Go.Proofs.YtnafocahllmpiaaDoorW.PrintLast
/-- The state behind a text: quoted, and to skip one. -/
def fin : Bool → Bool → List UInt8 → Bool × Bool
  | q, s, [] => (q, s)
  | q, s, c :: r => if s = true then fin q false r else if q = true ∧ c = 92 then fin q true r else if c = 34 then fin (!q) false r else fin q false r
theorem scan_cons (q s : Bool) (c : UInt8) (r : List UInt8) : scan q s (c :: r) = if s = true then (c :: (scan q false r).1, (scan q false r).2)
    else if q = true ∧ c = 92 then (c :: (scan q true r).1, (scan q true r).2)
    else if c = 34 then (c :: (scan (!q) false r).1, (scan (!q) false r).2)
    else if c = 44 ∧ q = false then ([], r)
    else (c :: (scan q false r).1, (scan q false r).2) := by rw [scan]
theorem fin_cons (q s : Bool) (c : UInt8) (r : List UInt8) : fin q s (c :: r) = if s = true then fin q false r else if q = true ∧ c = 92 then fin q true r else if c = 34 then fin (!q) false r else fin q false r := by rw [fin]
theorem scan_append : ∀ (q s : Bool) (a b : List UInt8), (scan q s a).1 = a → scan q s (a ++ b) = (a ++ (scan (fin q s a).1 (fin q s a).2 b).1, (scan (fin q s a).1 (fin q s a).2 b).2)
  | _, _, [], _, _ => rfl
  | q, s, c :: r, b, h => by
    have ih := fun q s h => scan_append q s r b h
    rw [List.cons_append]
    rw [scan_cons] at h
    rw [scan_cons, fin_cons]
    by_cases h1 : s = true
    · rw [if_pos h1] at h ⊢
      rw [if_pos h1, ih _ _ (List.cons.inj h).2]
      rfl
    rw [if_neg h1] at h ⊢
    rw [if_neg h1]
    by_cases h2 : q = true ∧ c = 92
    · rw [if_pos h2] at h ⊢
      rw [if_pos h2, ih _ _ (List.cons.inj h).2]
      rfl
    rw [if_neg h2] at h ⊢
    rw [if_neg h2]
    by_cases h3 : c = 34
    · rw [if_pos h3] at h ⊢
      rw [if_pos h3, ih _ _ (List.cons.inj h).2]
      rfl
    rw [if_neg h3] at h ⊢
    rw [if_neg h3]
    by_cases h4 : c = 44 ∧ q = false
    · rw [if_pos h4] at h
      cases h
    rw [if_neg h4] at h ⊢
    rw [ih _ _ (List.cons.inj h).2]
    rfl
theorem scan_pre : ∀ (q s : Bool) (a b : List UInt8), (scan q s (a ++ b)).1 = a ++ b → (scan q s a).1 = a
  | _, _, [], _, _ => rfl
  | q, s, c :: r, b, h => by
    have ih := fun q s h => scan_pre q s r b h
    rw [List.cons_append] at h
    rw [scan_cons] at h ⊢
    by_cases h1 : s = true
    · rw [if_pos h1] at h ⊢
      exact congrArg (c :: ·) (ih _ _ (List.cons.inj h).2)
    rw [if_neg h1] at h ⊢
    by_cases h2 : q = true ∧ c = 92
    · rw [if_pos h2] at h ⊢
      exact congrArg (c :: ·) (ih _ _ (List.cons.inj h).2)
    rw [if_neg h2] at h ⊢
    by_cases h3 : c = 34
    · rw [if_pos h3] at h ⊢
      exact congrArg (c :: ·) (ih _ _ (List.cons.inj h).2)
    rw [if_neg h3] at h ⊢
    by_cases h4 : c = 44 ∧ q = false
    · rw [if_pos h4] at h
      cases h
    rw [if_neg h4] at h ⊢
    exact congrArg (c :: ·) (ih _ _ (List.cons.inj h).2)
theorem scan_fst : ∀ (q s : Bool) (v : List UInt8), (scan q s (scan q s v).1).1 = (scan q s v).1
  | _, _, [] => rfl
  | q, s, c :: r => by
    have ih := fun q s => scan_fst q s r
    rw [scan]
    by_cases h1 : s = true
    · simp only [if_pos h1]; rw [scan, if_pos h1]; exact congrArg (c :: ·) (ih _ _)
    simp only [if_neg h1]
    by_cases h2 : q = true ∧ c = 92
    · simp only [if_pos h2]; rw [scan, if_neg h1, if_pos h2]; exact congrArg (c :: ·) (ih _ _)
    simp only [if_neg h2]
    by_cases h3 : c = 34
    · simp only [if_pos h3]; rw [scan, if_neg h1, if_neg h2, if_pos h3]; exact congrArg (c :: ·) (ih _ _)
    simp only [if_neg h3]
    by_cases h4 : c = 44 ∧ q = false
    · simp only [if_pos h4]; rfl
    simp only [if_neg h4]
    rw [scan, if_neg h1, if_neg h2, if_neg h3, if_neg h4]
    exact congrArg (c :: ·) (ih _ _)
theorem fin_skip : ∀ (q s : Bool) (l : List UInt8), (s = true → q = true) → ((fin q s l).2 = true → (fin q s l).1 = true)
  | q, s, [], h => h
  | q, s, c :: r, h => by
    have ih := fun q s h => fin_skip q s r h
    unfold fin
    by_cases h1 : s = true
    · rw [if_pos h1]; exact ih _ _ (fun h => by cases h)
    rw [if_neg h1]
    by_cases h2 : q = true ∧ c = 92
    · rw [if_pos h2]; exact ih _ _ (fun _ => h2.1)
    rw [if_neg h2]
    by_cases h3 : c = 34
    · rw [if_pos h3]; exact ih _ _ (fun h => by cases h)
    rw [if_neg h3]
    exact ih _ _ (fun h => by cases h)
theorem gap_cases {c : UInt8} (h : gaps.contains c = true) : c = 32 ∨ c = 9 := by
  simpa [gaps] using h
theorem scan_gap (c : UInt8) (h : gaps.contains c = true) (r : List UInt8) : scan false false (c :: r) = (c :: (scan false false r).1, (scan false false r).2) := by
  rcases gap_cases h with rfl | rfl <;> simp [scan]
theorem scan_gaps : ∀ (g r : List UInt8), (∀ c ∈ g, gaps.contains c = true) → (scan false false (g ++ r)).1 = g ++ r → (scan false false r).1 = r
  | [], _, _, h => h
  | c :: g, r, hg, h => by
    rw [List.cons_append, scan_gap c (hg c (.head _))] at h
    exact scan_gaps g r (fun x hx => hg x (.tail _ hx)) (List.cons.inj h).2
theorem dropWhile_split (p : UInt8 → Bool) : ∀ l : List UInt8, ∃ g, l = g ++ l.dropWhile p ∧ ∀ c ∈ g, p c = true
  | [] => ⟨[], rfl, fun _ h => by cases h⟩
  | a :: l => by
    by_cases ha : p a = true
    · obtain ⟨g, hg, h⟩ := dropWhile_split p l
      refine ⟨a :: g, ?_, fun c hc => ?_⟩
      · rw [List.dropWhile_cons, if_pos ha, List.cons_append, ← hg]
      · cases hc with
        | head => exact ha
        | tail _ hc => exact h c hc
    · exact ⟨[], by rw [List.dropWhile_cons, if_neg ha]; rfl, fun _ h => by cases h⟩
/-- A text lies between gaps; its ends are none. -/
theorem trim_split (l : List UInt8) : ∃ g h, l = g ++ Lib.trimS l gaps ++ h ∧ (∀ c ∈ g, gaps.contains c = true) ∧ (∀ c ∈ h, gaps.contains c = true) := by
  obtain ⟨h, e1, e2⟩ := dropWhile_split (gaps.contains ·) l.reverse
  obtain ⟨g, e3, e4⟩ := dropWhile_split (gaps.contains ·) (l.reverse.dropWhile (gaps.contains ·)).reverse
  refine ⟨g, h.reverse, ?_, e4, fun c hc => e2 c (by simpa using hc)⟩
  have e5 : Lib.trimS l gaps = ((l.reverse.dropWhile (gaps.contains ·)).reverse).dropWhile (gaps.contains ·) := rfl
  rw [e5, ← e3, ← List.reverse_append, ← e1, List.reverse_reverse]
theorem trim_head {l : List UInt8} {a : UInt8} {r : List UInt8} (h : Lib.trimS l gaps = a :: r) : gaps.contains a = false := dropWhile_head h
theorem trim_last {l r : List UInt8} {z : UInt8} (h : Lib.trimS l gaps = r ++ [z]) : gaps.contains z = false := by
  have e5 : Lib.trimS l gaps = ((l.reverse.dropWhile (gaps.contains ·)).reverse).dropWhile (gaps.contains ·) := rfl
  obtain ⟨g, e3, e4⟩ := dropWhile_split (gaps.contains ·) (l.reverse.dropWhile (gaps.contains ·)).reverse
  rw [← e5, h, ← List.append_assoc] at e3
  have e6 := congrArg List.reverse e3
  rw [List.reverse_reverse, List.reverse_append, List.reverse_singleton, List.singleton_append] at e6
  exact dropWhile_head e6
theorem trimS_id {e : List UInt8} (h0 : ∀ a r, e = a :: r → gaps.contains a = false) (h1 : ∀ r z, e = r ++ [z] → gaps.contains z = false) : Lib.trimS e gaps = e := by
  have hr : Lib.trimRightS e gaps = e := by
    unfold Lib.trimRightS
    cases hrev : e.reverse with
    | nil => simp at hrev; subst hrev; rfl
    | cons z r =>
      have he : e = r.reverse ++ [z] := by rw [← List.reverse_reverse e, hrev, List.reverse_cons]
      rw [List.dropWhile_cons, if_neg (by rw [h1 _ _ he]; decide), ← hrev, List.reverse_reverse]
  unfold Lib.trimS
  rw [hr]
  unfold Lib.trimLeftS
  cases e with
  | nil => rfl
  | cons a r => rw [List.dropWhile_cons, if_neg (by rw [h0 a r rfl]; decide)]
theorem trim_gap_end {e : List UInt8} (h1 : ∀ r z, e = r ++ [z] → gaps.contains z = false) (c : UInt8) (hc : gaps.contains c = true) : Lib.trimS (e ++ [c]) gaps = Lib.trimS e gaps := by
  unfold Lib.trimS Lib.trimRightS
  rw [List.reverse_append, List.reverse_singleton, List.singleton_append, List.dropWhile_cons, if_pos hc]
theorem trim_gap_head (e : List UInt8) (c : UInt8) (hc : gaps.contains c = true) (he : Lib.trimS e gaps = e) : Lib.trimS (c :: e) gaps = e := by
  have hr : Lib.trimRightS e gaps = e := by
    have h1 : (Lib.trimRightS e gaps).length ≤ e.length := by
      unfold Lib.trimRightS
      have := dropWhile_len (gaps.contains ·) e.reverse
      simp only [List.length_reverse] at *
      omega
    obtain ⟨h, e1, e2⟩ := dropWhile_split (gaps.contains ·) e.reverse
    have h2 : (Lib.trimS e gaps).length ≤ (Lib.trimRightS e gaps).length := dropWhile_len _ _
    rw [he] at h2
    have h3 : e = Lib.trimRightS e gaps ++ h.reverse := by
      unfold Lib.trimRightS
      rw [← List.reverse_append, ← e1, List.reverse_reverse]
    have h4 : h.reverse = [] := by
      have := congrArg List.length h3
      rw [List.length_append] at this
      exact List.eq_nil_of_length_eq_zero (by omega)
    rw [h4, List.append_nil] at h3
    exact h3.symm
  have hl : Lib.trimLeftS e gaps = e := by unfold Lib.trimS at he; rw [hr] at he; exact he
  cases e with
  | nil =>
    unfold Lib.trimS Lib.trimRightS Lib.trimLeftS
    rw [List.reverse_singleton, List.dropWhile_cons, if_pos hc]
    rfl
  | cons a r =>
    have h5 : Lib.trimRightS (c :: a :: r) gaps = c :: a :: r := by
      have h6 : (a :: r).reverse.dropWhile (gaps.contains ·) = (a :: r).reverse := by
        have := congrArg List.reverse hr
        unfold Lib.trimRightS at this
        rwa [List.reverse_reverse] at this
      unfold Lib.trimRightS
      cases hrev : (a :: r).reverse with
      | nil => simp at hrev
      | cons z t =>
        rw [hrev] at h6
        have hz : ¬ (gaps.contains z = true) := by
          intro hz
          rw [List.dropWhile_cons, if_pos hz] at h6
          have := congrArg List.length h6
          have h7 := dropWhile_len (gaps.contains ·) t
          simp only [List.length_cons] at this
          omega
        rw [List.reverse_cons, hrev, List.cons_append, List.dropWhile_cons, if_neg hz, ← List.cons_append, ← hrev, List.reverse_append, List.reverse_reverse]
        rfl
    unfold Lib.trimS
    rw [h5]
    unfold Lib.trimLeftS
    rw [List.dropWhile_cons, if_pos hc]
    exact hl
/-- What an element is. -/
structure IsElem (e : List UInt8) : Prop where
  ne : e ≠ []
  trim : Lib.trimS e gaps = e
  scan : (Pure.scan false false e).1 = e
theorem elem_is : ∀ (n : Nat) (v : List UInt8), v.length ≤ n → ∀ e ∈ elemsL v, IsElem e
  | 0, v, h => by
    obtain rfl : v = [] := List.eq_nil_of_length_eq_zero (by omega)
    intro e he; cases he
  | n + 1, v, h => by
    by_cases hv : v = []
    · subst hv; intro e he; cases he
    · have hlt := scan_lt v hv
      have ih := elem_is n (Pure.scan false false v).2 (by omega)
      rw [elemsL_cons v hv]
      split
      · exact ih
      · rename_i hne
        intro e he
        cases he with
        | tail _ he => exact ih e he
        | head =>
          refine ⟨hne, trimS_id (fun a r h => trim_head h) (fun r z h => trim_last h), ?_⟩
          obtain ⟨g, t, e1, e2, _⟩ := trim_split (Pure.scan false false v).1
          have h1 := scan_fst false false v
          generalize hE : Lib.trimS (Pure.scan false false v).1 gaps = E at e1
          rw [e1] at h1
          have h2 := scan_pre false false (g ++ E) t h1
          exact scan_gaps g E e2 h2
def joinL : List (List UInt8) → List UInt8
  | [] => []
  | [e] => e
  | e :: r => e ++ ([32, 44, 44, 32] ++ joinL r)
theorem elemsL_gap (c : UInt8) (hc : gaps.contains c = true) (e : List UInt8) (b : List UInt8) (he : IsElem e) (hf : (fin false false e).1 = false) (hb : (Pure.scan false false b).1 = [] ∨ (Pure.scan false false b).1 = [32]) :
    elemsL (c :: (e ++ b)) = e :: elemsL (Pure.scan false false b).2 ∧ elemsL (e ++ b) = e :: elemsL (Pure.scan false false b).2 := by
  have hs : (fin false false e).2 = false := by
    cases h : (fin false false e).2 with
    | false => rfl
    | true =>
      have := fin_skip false false e (fun h => by cases h) h
      rw [hf] at this
      cases this
  have h1 := scan_append false false e b he.scan
  rw [hf, hs] at h1
  have hl : ∀ r z, e = r ++ [z] → gaps.contains z = false := fun r z h => trim_last (l := e) (by rw [he.trim]; exact h)
  have h32 : gaps.contains (32 : UInt8) = true := by decide
  have ht : Lib.trimS (e ++ (Pure.scan false false b).1) gaps = e := by
    rcases hb with hb | hb
    · rw [hb, List.append_nil, he.trim]
    · rw [hb, trim_gap_end hl 32 h32, he.trim]
  have ht2 : Lib.trimS (c :: (e ++ (Pure.scan false false b).1)) gaps = e := by
    rcases hb with hb | hb
    · rw [hb, List.append_nil, trim_gap_head e c hc he.trim]
    · rw [hb, ← List.cons_append]
      have hl2 : ∀ r z, c :: e = r ++ [z] → gaps.contains z = false := by
        intro r z h
        cases r with
        | nil =>
          rw [List.nil_append] at h
          exact absurd (List.cons.inj h).2 he.ne
        | cons x r => exact hl r z (List.cons.inj h).2
      rw [trim_gap_end hl2 32 h32, trim_gap_head e c hc he.trim]
  constructor
  · rw [elemsL_cons _ (by simp), scan_gap c hc, h1]
    simp only [ht2]
    rw [if_neg he.ne]
  · have hne : e ++ b ≠ [] := by simp [he.ne]
    rw [elemsL_cons _ hne, h1]
    simp only [ht]
    rw [if_neg he.ne]
theorem join_elems : ∀ (x : List (List UInt8)), (∀ e ∈ x, IsElem e ∧ (fin false false e).1 = false) → elemsL (joinL x) = x ∧ (x ≠ [] → elemsL (32 :: joinL x) = x)
  | [], _ => ⟨rfl, fun h => absurd rfl h⟩
  | [e], h => by
    obtain ⟨he, hf⟩ := h e (.head _)
    have := elemsL_gap 32 (by decide) e [] he hf (.inl rfl)
    rw [List.append_nil] at this
    exact ⟨this.2, fun _ => this.1⟩
  | e :: e2 :: r, h => by
    obtain ⟨he, hf⟩ := h e (.head _)
    have ih := join_elems (e2 :: r) (fun x hx => h x (.tail _ hx))
    have hj : joinL (e :: e2 :: r) = e ++ ([32, 44, 44, 32] ++ joinL (e2 :: r)) := rfl
    have hsc : scan false false ([32, 44, 44, 32] ++ joinL (e2 :: r)) = ([32], 44 :: 32 :: joinL (e2 :: r)) := by simp [scan]
    have hrest : elemsL (44 :: 32 :: joinL (e2 :: r)) = e2 :: r := by
      have hs2 : scan false false (44 :: 32 :: joinL (e2 :: r)) = ([], 32 :: joinL (e2 :: r)) := by simp [scan]
      rw [elemsL_cons _ (by simp), hs2, if_pos (by rfl)]
      exact ih.2 (by simp)
    have := elemsL_gap 32 (by decide) e ([32, 44, 44, 32] ++ joinL (e2 :: r)) he hf (.inr (by rw [hsc]))
    rw [hsc, hrest] at this
    rw [hj]
    exact ⟨this.2, fun _ => this.1⟩
end Go.Proofs.YtnafocahllmpiaaDoor.Pure
