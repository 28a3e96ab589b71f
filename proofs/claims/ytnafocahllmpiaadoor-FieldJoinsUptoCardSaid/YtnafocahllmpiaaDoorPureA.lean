/- Plain laws over the printed functions: what the field's parts answer for short texts. -/
import Derived.Test.YtnafocahllmpiaaDoorPx9
import Derived.Lib.AtoiBound
namespace Go.Proofs.YtnafocahllmpiaaDoor.Pure
open Go.RowKit Go.Proofs.YtnafocahllmpiaaDoor.P Go.Proofs.YtnafocahllmpiaaDoorW.PrintWords Go.Proofs.YtnafocahllmpiaaDoorW.PrintLast
theorem Ev.opt {α : Type} {g : Option α} {a : α} (h : g = some a) : Ev (fun _ => g) a := ⟨0, fun _ _ => h⟩
theorem Ev.ifT {α : Type} {c : Prop} [Decidable c] {g f : Nat → Option α} {a : α} (hc : c) (h : Ev g a) : Ev (fun k => if c then g k else f k) a := by
  obtain ⟨K, h⟩ := h
  exact ⟨K, fun k hk => (if_pos hc).trans (h k hk)⟩
theorem Ev.ifF {α : Type} {c : Prop} [Decidable c] {g f : Nat → Option α} {a : α} (hc : ¬ c) (h : Ev f a) : Ev (fun k => if c then g k else f k) a := by
  obtain ⟨K, h⟩ := h
  exact ⟨K, fun k hk => (if_neg hc).trans (h k hk)⟩
theorem alive_ev : Ev turnbucklelaw17_alive.f true := Ev.of turnbucklelaw17_alive.mono (k := 60) (by decide +kernel)
theorem size_data (s : ByteArray) : s.size = s.data.toList.length := Lib.size_eq s
theorem dropWhile_nil {p : UInt8 → Bool} : ∀ {l : List UInt8}, l.dropWhile p = [] → ∀ b ∈ l, p b = true
  | [], _, b, hb => by cases hb
  | a :: l, h, b, hb => by
    simp only [List.dropWhile] at h
    split at h
    · rename_i ha
      cases hb with
      | head => exact ha
      | tail _ hb => exact dropWhile_nil h b hb
    · cases h
theorem dropWhile_head {p : UInt8 → Bool} : ∀ {l : List UInt8} {a : UInt8} {r : List UInt8}, l.dropWhile p = a :: r → p a = false
  | [], a, r, h => by cases h
  | c :: l, a, r, h => by
    simp only [List.dropWhile] at h
    split at h
    · exact dropWhile_head h
    · rename_i hc
      cases h
      simpa using hc
theorem trimS_nil {l cs : List UInt8} (h : Lib.trimS l cs = []) : ∀ b ∈ l, cs.contains b = true := by
  unfold Lib.trimS Lib.trimLeftS Lib.trimRightS at h
  have h1 := dropWhile_nil h
  cases hd : l.reverse.dropWhile (cs.contains ·) with
  | nil => exact fun b hb => dropWhile_nil hd b (by simpa using hb)
  | cons a r =>
    have h2 : cs.contains a = false := dropWhile_head hd
    have h3 : cs.contains a = true := h1 a (by rw [hd]; simp)
    rw [h2] at h3
    cases h3
theorem dropWhile_len (p : UInt8 → Bool) : ∀ l : List UInt8, (l.dropWhile p).length ≤ l.length
  | [] => Nat.le_refl _
  | a :: l => by
    simp only [List.dropWhile]
    split
    · have := dropWhile_len p l; simp; omega
    · exact Nat.le_refl _
theorem trimS_len (l cs : List UInt8) : (Lib.trimS l cs).length ≤ l.length := by
  unfold Lib.trimS Lib.trimLeftS Lib.trimRightS
  have h1 := dropWhile_len (cs.contains ·) (l.reverse.dropWhile (cs.contains ·)).reverse
  have h2 := dropWhile_len (cs.contains ·) l.reverse
  simp only [List.length_reverse] at h1 h2
  omega
theorem decFrom_digits : ∀ (l : List UInt8) (acc : Nat), (∀ b ∈ l, 48 ≤ b.toNat ∧ b.toNat ≤ 57) → ∃ m, Lib.decFrom acc l = some m
  | [], acc, _ => ⟨acc, rfl⟩
  | b :: l, acc, h => by
    have hb := h b (.head _)
    obtain ⟨m, hm⟩ := decFrom_digits l (acc * 10 + (b.toNat - 48)) (fun c hc => h c (.tail _ hc))
    refine ⟨m, ?_⟩
    unfold Lib.decFrom Lib.digitVal
    rw [if_pos hb]
    exact hm
theorem digits_contains {b : UInt8} (h : ([48, 49, 50, 51, 52, 53, 54, 55, 56, 57] : List UInt8).contains b = true) : 48 ≤ b.toNat ∧ b.toNat ≤ 57 := by
  simp only [List.contains_cons, List.contains_nil, Bool.or_false, Bool.or_eq_true, beq_iff_eq] at h
  rcases h with rfl | rfl | rfl | rfl | rfl | rfl | rfl | rfl | rfl | rfl <;> decide
theorem atoi_digits {l : List UInt8} (hl : l ≠ []) (hn : l.length ≤ 18) (h : ∀ b ∈ l, 48 ≤ b.toNat ∧ b.toNat ≤ 57) : ∃ n : Int, Lib.atoi l = some n ∧ 0 ≤ n ∧ n < 1000000000000000000 := by
  cases l with
  | nil => exact absurd rfl hl
  | cons b r =>
    obtain ⟨m, hm⟩ := decFrom_digits (b :: r) 0 h
    have hb := h b (.head _)
    have e : Lib.atoi (b :: r) = some (m : Int) := by
      simp only [Lib.atoi]
      rw [if_neg (by intro e; rw [beq_iff_eq] at e; subst e; simp at hb), if_neg (by intro e; rw [beq_iff_eq] at e; subst e; simp at hb)]
      simp [Lib.decNat, hm]
    exact ⟨_, e, Int.natCast_nonneg m, (Lib.atoi_bound e hn).2⟩
theorem trim_some (s cs : ByteArray) (hs : s.size ≤ 9223372036854775807) (hc : cs.size < 4294967281 ∧ cs.data.toList.all (fun b => decide (b.toNat < 128)) = true) : strings_Trim.f s cs = some ⟨(Lib.trimS s.data.toList cs.data.toList).toArray⟩ := by
  unfold strings_Trim.f
  rw [if_pos ⟨hs, hc⟩]
theorem toList_data (s : ByteArray) : s.toList = s.data.toList := ByteArray.toList_eq s
theorem number_total (s : ByteArray) (hs : s.size ≤ 9223372036854775807) : ∃ n ok, field_number.f s = some (n, ok) ∧ 0 ≤ n ∧ n < 1000000000000000000 := by
  unfold field_number.f
  split
  · exact ⟨0, false, rfl, by omega, by omega⟩
  rename_i h0
  split
  · exact ⟨0, false, rfl, by omega, by omega⟩
  rename_i h1
  rw [trim_some s _ hs ⟨by decide, by decide⟩, Option.bind_some]
  split
  · rename_i h2
    rw [toList_data] at h0 h2
    have hd := trimS_nil (by simpa using h2)
    have hsz := size_data s
    obtain ⟨n, hn, h3, h4⟩ := atoi_digits h0 (by omega) (fun b hb => digits_contains (hd b hb))
    refine ⟨n, true, ?_, h3, h4⟩
    unfold strconv_Atoi_52.f
    rw [if_pos (by omega), hn]
    rfl
  · exact ⟨0, false, rfl, by omega, by omega⟩
theorem cut_total (s : ByteArray) (c : UInt8) (hs : s.size ≤ 140737488355328) : ∃ a b t, strings_Cut.f s ⟨#[c]⟩ = some (a, b, t) ∧ a.size ≤ s.size ∧ b.size ≤ s.size := by
  unfold strings_Cut.f stringslite_Cut.f stringslite_Index.f strings_Index.f
  simp only [Option.bind_some]
  have hge := Lib.indexByte_ge s.data.toList c
  have hsz := size_data s
  have h1 : (⟨#[c]⟩ : ByteArray).size = 1 := rfl
  split
  · rename_i h0
    obtain ⟨i, hi⟩ : ∃ i : Nat, Lib.indexByte s.data.toList c = (i : Int) := ⟨_, (Int.toNat_of_nonneg h0).symm⟩
    have h2 := (Lib.indexByte_some hi).1
    have hlt : i < s.data.toList.length := (List.getElem?_eq_some_iff.1 h2).1
    have hw : wrap64 ((i : Int) + 1) = (i : Int) + 1 := by unfold wrap64; omega
    rw [hi, h1]
    simp only [Int.natCast_one, hw]
    repeat rw [if_pos (by omega)]
    rw [Option.bind_some]
    refine ⟨_, _, _, rfl, ?_, ?_⟩ <;> simp only [ByteArray.size_extract] <;> omega
  · exact ⟨_, _, _, rfl, Nat.le_refl _, Nat.zero_le _⟩
def PartOk (len : Int) (o : Option (Int × Int × Bool)) : Prop := ∃ r : Int × Int × Bool, o = some r ∧ (r.2.2 = true → 0 ≤ r.1 ∧ r.2.1 < len)
set_option maxHeartbeats 1000000 in
theorem part_total (s : ByteArray) (len : Int) (hs : s.size ≤ 140737488355328) (h0 : 0 ≤ len) (h1 : len ≤ 1099511627776) :
    ∃ f t ok, Ev (fun k => field_part.f k s len) (f, t, ok) ∧ (ok = true → 0 ≤ f ∧ t < len) := by
  obtain ⟨a, b, c, hc, ha, hb⟩ := cut_total s 45 hs
  obtain ⟨n, o, hn, n0, n1⟩ := number_total a (by omega)
  obtain ⟨m, p, hm, m0, m1⟩ := number_total b (by omega)
  have hw1 : wrap64 (len - 1) = len - 1 := by unfold wrap64; omega
  have hw2 : wrap64 (len - m) = len - m := by unfold wrap64; omega
  suffices h : PartOk len (field_part.f 2 s len) by
    obtain ⟨⟨f, t, ok⟩, h, h2⟩ := h
    exact ⟨f, t, ok, Ev.of (field_part.mono s len) h, h2⟩
  unfold field_part.f
  simp only [hc, hn, hm, Option.bind_some, field_part.j0, field_part.j1, hw1, hw2]
  repeat' split
  all_goals first
    | (refine ⟨_, rfl, fun h => ?_⟩; exact absurd h (by decide))
    | (refine ⟨_, rfl, fun _ => ?_⟩; simp only [mx, mn]; constructor <;> (try split) <;> omega)
theorem splitB_sizes (sep : ByteArray) : ∀ (k : Nat) (s : ByteArray), ∀ x ∈ Lib.splitB sep 0 k s, x.size ≤ s.size
  | 0, s, x, hx => by
    rw [Lib.splitB_zero] at hx
    obtain rfl := List.mem_singleton.1 hx
    exact Nat.le_refl _
  | k + 1, s, x, hx => by
    unfold Lib.splitB at hx
    split at hx
    · obtain rfl := List.mem_singleton.1 hx
      exact Nat.le_refl _
    · cases hx with
      | head => simp only [ByteArray.size_extract]; omega
      | tail _ hx =>
        have := splitB_sizes sep k _ x hx
        simp only [ByteArray.size_extract] at this
        omega
theorem split_total (s : ByteArray) (c : UInt8) (hs : s.size < 4294967281) : ∃ l, strings_Split.f s ⟨#[c]⟩ = some l ∧ l.length ≤ s.size + 1 ∧ ∀ x ∈ l, x.size ≤ s.size := by
  refine ⟨Lib.splitB ⟨#[c]⟩ 0 (Lib.countB s ⟨#[c]⟩) s, ?_, ?_, splitB_sizes _ _ _⟩
  · unfold strings_Split.f
    simp only
    rw [if_pos hs]
  · rw [Lib.splitB_all ⟨#[c]⟩ (Nat.le_refl _) 0 _ s rfl]
    have := Lib.countB_le ⟨#[c]⟩ (Nat.le_refl _) s.size s (Nat.le_refl _)
    omega
def SpansIn (len : Int) (l : List S31) : Prop := ∀ s ∈ l, 0 ≤ s.f0 ∧ s.f0 ≤ s.f1 ∧ s.f1 < len
def RangesOk (len : Int) (l : List S31) (e : Int) : Prop := (e = 0 ∧ 0 < l.length ∧ l.length ≤ 16 ∧ SpansIn len l) ∨ (e ≠ 0 ∧ l = [])
theorem ranges_loop (len : Int) (h0 : 0 ≤ len) (h1 : len ≤ 1099511627776) (ps : List ByteArray) (hps : ps.length ≤ 4294967296) (hsz : ∀ x ∈ ps, x.size ≤ 140737488355328) :
    ∀ (n i : Nat) (out : List S31), n + i = ps.length → out.length ≤ i → SpansIn len out → ∃ l e, Ev (fun k => field_Ranges.l0 k len ps out ps (ps.length : Int) (i : Int)) (l, e) ∧ RangesOk len l e
  | 0, i, out, hn, ho, hs => by
    have hi : ¬ (i : Int) < (ps.length : Int) := by omega
    by_cases h2 : (ps.length : Int) > 16
    · exact ⟨[], 6, Ev.step (fun k => by rw [field_Ranges.l0, if_neg hi, if_pos h2]) (Ev.now _), .inr ⟨by decide, rfl⟩⟩
    by_cases h3 : (out.length : Int) = 0
    · exact ⟨[], 16, Ev.step (fun k => by rw [field_Ranges.l0, if_neg hi, if_neg h2, if_pos h3]) (Ev.now _), .inr ⟨by decide, rfl⟩⟩
    · exact ⟨out, 0, Ev.step (fun k => by rw [field_Ranges.l0, if_neg hi, if_neg h2, if_neg h3]) (Ev.now _), .inl ⟨rfl, by omega, by omega, hs⟩⟩
  | n + 1, i, out, hn, ho, hs => by
    have hi : (i : Int) < (ps.length : Int) := by omega
    have hw : wrap64 ((i : Int) + 1) = ((i + 1 : Nat) : Int) := by unfold wrap64; omega
    have hx : (rdOf ByteArray.empty ps (i : Int)).size ≤ 140737488355328 := by
      have hl : i < ps.length := by omega
      have e : rdOf ByteArray.empty ps (i : Int) = ps[i] := by simp [rdOf, List.getD_eq_getElem?_getD, List.getElem?_eq_getElem hl]
      rw [e]
      exact hsz _ (List.getElem_mem hl)
    have ht := trim_some (rdOf ByteArray.empty ps (i : Int)) ⟨#[32, 9]⟩ (by omega) ⟨by decide, by decide⟩
    have hts : (⟨(Lib.trimS (rdOf ByteArray.empty ps (i : Int)).data.toList [32, 9]).toArray⟩ : ByteArray).size ≤ 140737488355328 := by
      have h1 := trimS_len (rdOf ByteArray.empty ps (i : Int)).data.toList [32, 9]
      have h2 := size_data (rdOf ByteArray.empty ps (i : Int))
      rw [size_data]
      simp only [List.toList_toArray]
      omega
    obtain ⟨f, t, ok, hp, hok⟩ := part_total _ len hts h0 h1
    have step : ∀ k, field_Ranges.l0 (k + 1) len ps out ps (ps.length : Int) (i : Int) = (field_part.f k ⟨(Lib.trimS (rdOf ByteArray.empty ps (i : Int)).data.toList [32, 9]).toArray⟩ len).bind fun bt =>
        if bt.2.2 = true then (if bt.1 ≤ bt.2.1 then (if out.length < 8796093022208 then field_Ranges.l0 k len ps (out ++ [(⟨bt.1, bt.2.1⟩ : S31)]) ps (ps.length : Int) ((i + 1 : Nat) : Int) else none) else field_Ranges.l0 k len ps out ps (ps.length : Int) ((i + 1 : Nat) : Int)) else some ([], 5) := fun k => by
      rw [field_Ranges.l0, if_pos hi, if_pos (Int.natCast_nonneg i), if_pos hi, ht, hw]
      rfl
    cases ok with
    | false => exact ⟨[], 5, Ev.step step (Ev.bind hp (Ev.now _)), .inr ⟨by decide, rfl⟩⟩
    | true =>
      obtain ⟨hf, hlt⟩ := hok rfl
      by_cases hle : f ≤ t
      · obtain ⟨l, e, hv, hr⟩ := ranges_loop len h0 h1 ps hps hsz n (i + 1) (out ++ [⟨f, t⟩]) (by omega) (by simp; omega) (fun s hm => by
          rcases List.mem_append.1 hm with hm | hm
          · exact hs s hm
          · obtain rfl := List.mem_singleton.1 hm
            exact ⟨hf, hle, hlt⟩)
        exact ⟨l, e, Ev.step step (Ev.bind hp (Ev.ifT rfl (Ev.ifT hle (Ev.ifT (by omega) hv)))), hr⟩
      · obtain ⟨l, e, hv, hr⟩ := ranges_loop len h0 h1 ps hps hsz n (i + 1) out (by omega) (by omega) hs
        exact ⟨l, e, Ev.step step (Ev.bind hp (Ev.ifT rfl (Ev.ifF hle hv))), hr⟩
theorem small_total (s : ByteArray) (hs : s.size ≤ 140737488355328) : field_small.f s = some (smallS s) := by unfold field_small.f; rw [if_pos hs]
theorem ranges_total (s : ByteArray) (len : Int) (hs : s.size ≤ 3000) : ∃ l e, Ev (fun k => field_Ranges.f k s len) (l, e) ∧ RangesOk len l e := by
  obtain ⟨a, b, c, hc, ha, hb⟩ := cut_total s 61 (by omega)
  have hsm := small_total a (by omega)
  have bad : ∀ b, Ev (fun k => field_Ranges.j0 k len b true) ([], 5) := fun b => Ev.step (fun k => by rw [field_Ranges.j0, if_pos rfl]) (Ev.now _)
  have nok : RangesOk len [] 5 := .inr ⟨by decide, rfl⟩
  unfold field_Ranges.f
  simp only [hc, hsm, Option.bind_some]
  by_cases h1 : (smallS a).toList = [98, 121, 116, 101, 115]
  · by_cases h2 : a.toList = s.toList
    · exact ⟨_, _, Ev.ifT h1 (Ev.ifT h2 (bad b)), nok⟩
    · by_cases h3 : len < 0
      · exact ⟨_, _, Ev.ifT h1 (Ev.ifF h2 (Ev.ifT h3 (bad b))), nok⟩
      · by_cases h4 : len > 1099511627776
        · exact ⟨_, _, Ev.ifT h1 (Ev.ifF h2 (Ev.ifF h3 (by rw [decide_eq_true h4]; exact bad b))), nok⟩
        · obtain ⟨ps, hp, hl, hz⟩ := split_total b 44 (by omega)
          obtain ⟨l, e, hv, hr⟩ := ranges_loop len (by omega) (by omega) ps (by omega) (fun x hx => by have := hz x hx; omega) ps.length 0 [] (by omega) (by simp) (fun s hm => by cases hm)
          refine ⟨l, e, Ev.ifT h1 (Ev.ifF h2 (Ev.ifF h3 ?_)), hr⟩
          rw [decide_eq_false h4]
          exact Ev.step (fun k => by rw [field_Ranges.j0, if_neg (by decide), hp, Option.bind_some]; rfl) hv
  · exact ⟨_, _, Ev.ifF h1 (bad b), nok⟩
end Go.Proofs.YtnafocahllmpiaaDoor.Pure
