/- A part of a proof: texts laid one behind the other by merge.py. -/
import Derived.Test.YtbedkjmdckgbgaaDoorM2
import Derived.BigQuiet
import Derived.Deep.QuietTactic
import Derived.Deep.RegionWith
import Derived.IntWalk
import Derived.Lib.SlBytesConst
import Derived.ProofKit
import Derived.OpenShut
import Derived.ChangeOld
import Derived.Below
import Derived.Test.YtbedkjmdckgbgaaDoorM1
import Derived.ShutString
import Derived.SizedLaws
/- (*Store).Get: the newest one of those that match goes to the front. -/
namespace Go.Proofs.YtbedkjmdckgbgaaDoor.P
open Go.RowKit Go.Shelf Go.Proofs.YtbedkjmdckgbgaaDoorW.PrintWords
attribute [local go_sem] Oper.semAt_some
def beats (best : Option Lk) (l : Lk) : Bool :=
  match best with
  | none => true
  | some b => decide (b.x.came < l.x.came)
def pick (m : Lk → Bool) (best : Option Lk) (l : Lk) : Option Lk := if m l && beats best l then some l else best
def bestOf (m : Lk → Bool) (L : List Lk) : Option Lk := L.foldl (pick m) none
theorem bestOf_snoc (m : Lk → Bool) (pre : List Lk) (l : Lk) : bestOf m (pre ++ [l]) = pick m (bestOf m pre) l := by simp [bestOf, List.foldl_append]
theorem pick_no {m : Lk → Bool} {o : Option Lk} {l : Lk} (h : m l = false) : pick m o l = o := by simp [pick, h]
theorem pick_none {m : Lk → Bool} {o : Option Lk} {l : Lk} (h : m l = true) (ho : o = none) : pick m o l = some l := by subst ho; simp [pick, beats, h]
theorem pick_lt {m : Lk → Bool} {o : Option Lk} {b l : Lk} (h : m l = true) (ho : o = some b) (hl : decide (b.x.came < l.x.came) = true) : pick m o l = some l := by
  subst ho
  have hb : beats (some b) l = _ := hl
  unfold pick
  rw [h, hb]
  rfl
theorem pick_ge {m : Lk → Bool} {o : Option Lk} {b l : Lk} (h : m l = true) (ho : o = some b) (hl : decide (b.x.came < l.x.came) = false) : pick m o l = o := by
  subst ho
  have hb : beats (some b) l = _ := hl
  unfold pick
  rw [h, hb]
  rfl
theorem pick_mem (m : Lk → Bool) (b : Lk) : ∀ (L : List Lk) (o : Option Lk), L.foldl (pick m) o = some b → (b ∈ L ∧ m b = true) ∨ o = some b := by
  intro L
  induction L with
  | nil => intro o h; exact .inr h
  | cons l L ih =>
    intro o h
    rw [List.foldl_cons] at h
    rcases ih _ h with h | h
    · exact .inl ⟨.tail _ h.1, h.2⟩
    · by_cases hc : (m l && beats o l) = true
      · unfold pick at h
        rw [if_pos hc] at h
        obtain rfl : l = b := by simpa using h
        simp only [Bool.and_eq_true] at hc
        exact .inl ⟨.head _, hc.1⟩
      · unfold pick at h
        rw [if_neg hc] at h
        exact .inr h
theorem bestOf_mem {m : Lk → Bool} {L : List Lk} {b : Lk} (h : bestOf m L = some b) : b ∈ L ∧ m b = true := by
  rcases pick_mem m b L none h with h | h
  · exact h
  · cases h
def bptr (o : Option Lk) : Value := ptr (o.map (·.b))
def zSt : St := ⟨⟨#[]⟩, ⟨#[]⟩, ⟨#[]⟩, ⟨#[]⟩, [], [], 0, [], [], 0, 0⟩
def zFr : Fr := ⟨none, 0, none, 0, none, 0, none, 0⟩
def ReqAt (W : World) (B : Nat) (y : St) (r : Fr) : Prop := W.heap[B]? = some (.cells (reqC y r) 32 (0, 0))
/-- Between two rounds of Get. -/
structure GetI (W : World) (s : Nat) (cap : Int) (L : List Lk) (m : Lk → Bool) (y : St) (ry : Fr) (H : Nat) (pre : List Lk) (V : World) : Prop where
  ch : Chain V s cap (total L) L
  hold : Below W.heap.size W V
  q : ReqAt V H y ry
  z : Row39 V (H + 1) zSt zFr
  b2 : boxC V (H + 2) (bptr (bestOf m pre)) 54
  b3 : boxC V (H + 3) (.pointer (some ⟨s, 0, none⟩)) 23
theorem GetI.ownFrom (W : World) (s : Nat) (cap : Int) (L : List Lk) (m : Lk → Bool) (y : St) (ry : Fr) (H : Nat) (B : Nat) (hB : W.heap.size ≤ B) : OwnFrom B (GetI W s cap L m y ry H) := by
  intro pre V V' row h hg hr
  have hs := same_grown hg (fun r e => (hr r e).2)
  exact ⟨h.ch.same hs, h.hold.grown hg h.hold.size (fun k e => Nat.le_trans hB (hr k e).1), (hs _ _ _ _ h.q).trans h.q, (hs _ _ _ _ h.z).trans h.z, h.b2.same hs, h.b3.same hs⟩
theorem chain_iter {V : World} {s : Nat} {cap used : Int} {L pre : List Lk} {Bx : Nat} (hc : Chain V s cap used L) (hb : boxC V Bx (.pointer (some ⟨s, 0, none⟩)) 23) : IterRd Bx s L pre V := by
  refine ⟨hb.cell, fun _ => ?_, fun l rest hx => ?_⟩
  · have h1 := hc.st
    have e0 : atB L 0 = headB L := by simp [atB, headB, List.head?_eq_getElem?]
    have h2 := row_cell h1 3
    rw [e0] at h2
    exact h2.trans rfl
  · have hl := hc.lk pre.length l (by rw [hx]; simp)
    have e1 : atB L (pre.length + 1) = headB rest := by
      have := headB_at (pre ++ [l]) rest
      rw [List.length_append, List.append_assoc, List.singleton_append, ← hx] at this
      exact this
    have h2 := row_cell hl 13
    rw [e1] at h2
    exact h2.trans rfl
theorem GetI.below {W : World} {s : Nat} {cap : Int} {L : List Lk} {m : Lk → Bool} {y : St} {ry : Fr} {H : Nat} {pre : List Lk} {V w1 : World} (h : GetI W s cap L m y ry H pre V) (hb : Below V.heap.size V w1) : GetI W s cap L m y ry H pre w1 := by
  have lt : ∀ {B : Nat} {v : Value} {t : Nat}, boxC V B v t → B < V.heap.size := fun h => (Array.getElem?_eq_some_iff.1 h).1
  exact ⟨h.ch.hold (S := []) (Hold.of_below hb) (by simp) (by simp), h.hold.trans (hb.mono h.hold.size), (hb.block _ (Array.getElem?_eq_some_iff.1 h.q).1).trans h.q, (hb.block _ (Array.getElem?_eq_some_iff.1 h.z).1).trans h.z, h.b2.below hb (lt h.b2), h.b3.below hb (lt h.b3)⟩
theorem GetI.none_ {W : World} {s : Nat} {cap : Int} {L : List Lk} {m : Lk → Bool} {y : St} {ry : Fr} {H : Nat} {pre : List Lk} {V : World} (h : GetI W s cap L m y ry H pre V) (hb : bestOf m pre = none) : V.cell? ⟨H + 1 + 1, 0, none⟩ = some (.pointer none) := by
  have h2 := h.b2.cell
  rw [hb] at h2
  exact h2
theorem GetI.some_ {W : World} {s : Nat} {cap : Int} {L : List Lk} {m : Lk → Bool} {y : St} {ry : Fr} {H : Nat} {pre : List Lk} {V : World} (h : GetI W s cap L m y ry H pre V) {b : Lk} (hb : bestOf m pre = some b) : V.cell? ⟨H + 1 + 1, 0, none⟩ = some (.pointer (some ⟨b.b, 0, none⟩)) := by
  have h2 := h.b2.cell
  rw [hb] at h2
  exact h2
/-- What every operation of the test keeps. -/
def GetR (V W : World) (s : Nat) (cap : Int) (L : List Lk) (m : Lk → Bool) (y : St) (ry : Fr) (H : Nat) (pre : List Lk) (w : World) : Prop := GetI W s cap L m y ry H pre w ∧ Below V.heap.size V w
theorem GetR.below {V W : World} {s : Nat} {cap : Int} {L : List Lk} {m : Lk → Bool} {y : St} {ry : Fr} {H : Nat} {pre : List Lk} {w w1 : World} (h : GetR V W s cap L m y ry H pre w) (hb : Below w.heap.size w w1) : GetR V W s cap L m y ry H pre w1 := ⟨h.1.below hb, h.2.trans (hb.mono h.2.size)⟩
theorem GetI.drew_ {W : World} {s : Nat} {cap : Int} {L : List Lk} {m : Lk → Bool} {y : St} {ry : Fr} {H : Nat} {pre : List Lk} {V : World} (h : GetI W s cap L m y ry H pre V) : GetI W s cap L m y ry H pre V.drew := h.below ((Below.refl _ V).drew)
theorem get_no {W : World} {s : Nat} {cap : Int} {L : List Lk} {m : Lk → Bool} {y : St} {ry : Fr} {H : Nat} {pre : List Lk} {V w1 : World} {l : Lk} (h : GetI W s cap L m y ry H pre V) (hb : Below V.heap.size V w1) (hq : pick m (bestOf m pre) l = bestOf m pre) (B : Nat) :
    KeepsFrom B V w1 ∧ GetI W s cap L m y ry H (pre ++ [l]) w1 := by
  have h1 := h.below hb
  exact ⟨(keeps_below hb).from _, ⟨h1.ch, h1.hold, h1.q, h1.z, by rw [bestOf_snoc, hq]; exact h1.b2, h1.b3⟩⟩
theorem get_yes {W : World} {s : Nat} {cap : Int} {L : List Lk} {m : Lk → Bool} {y : St} {ry : Fr} {H : Nat} {pre : List Lk} {V w1 : World} {l : Lk} (h : GetI W s cap L m y ry H pre V) (hH : W.heap.size ≤ H) (hI : ∀ k ∈ own1 s L, k < W.heap.size) (hb : Below V.heap.size V w1) (hq : pick m (bestOf m pre) l = some l) (B : Nat) :
    KeepsFrom B V (w1.setCell ⟨H + 2, 0, none⟩ (.pointer (some ⟨l.b, 0, none⟩))) ∧ GetI W s cap L m y ry H (pre ++ [l]) (w1.setCell ⟨H + 2, 0, none⟩ (.pointer (some ⟨l.b, 0, none⟩))) := by
  have h1 := h.below hb
  have ne : ∀ k ∈ own1 s L, k ≠ H + 2 := fun k hk => by have := hI k hk; omega
  refine ⟨((keeps_below hb).trans (KeepsOthers.setCell _ _ _)).from _, ⟨?_, h1.hold.setCell (by show W.heap.size ≤ H + 2; omega) _, (row_other (by omega)).trans h1.q, (row_other (by omega)).trans h1.z, ?_, (row_other (by omega)).trans h1.b3⟩⟩
  · exact ⟨(row_other (fun e => ne s (.head _) e.symm)).trans h1.ch.st, fun i a hi => (row_other (fun e => ne a.b (.tail _ (List.mem_map.2 ⟨a, List.mem_of_getElem? hi, rfl⟩)) e.symm)).trans (h1.ch.lk i a hi), h1.ch.nd, h1.ch.ns⟩
  · rw [bestOf_snoc, hq]
    exact row_set h1.b2 0 _
/-- What a Get answers and leaves. -/
def GetPost (S : List Nat) (W : World) (s : Nat) (cap : Int) (L : List Lk) (m : Lk → Bool) (e : Ending) (w' : World) : Prop :=
  match bestOf m L with
  | none => e = .returned (.tuple #[.agg (stC zSt zFr), .bool false]) ∧ Inv S w' s cap L ∧ Below W.heap.size W w'
  | some b => ∃ r' i, L[i]? = some b ∧ e = .returned (.tuple #[.agg (stC b.x r'), .bool true]) ∧ RdO w' W.heap.size b.x r' ∧ Inv S w' s cap (b :: L.eraseIdx i) ∧ Hold (own1 s L) W w'
def zWorld (V : World) (g : Nat) : World := (((((((((((V.setCell ⟨g, 0, none⟩ (.string ⟨#[]⟩)).setCell ⟨g, 1, none⟩ (.string ⟨#[]⟩)).setCell ⟨g, 2, none⟩ (.string ⟨#[]⟩)).setCell ⟨g, 3, none⟩ (.string ⟨#[]⟩)).setCell ⟨g, 4, none⟩ (.slice none 0 0)).setCell ⟨g, 5, none⟩ (.slice none 0 0)).setCell ⟨g, 6, none⟩ (.int .i64 0)).setCell ⟨g, 7, none⟩ (.slice none 0 0)).setCell ⟨g, 8, none⟩ (.slice none 0 0)).setCell ⟨g, 9, none⟩ (.int .i64 0)).setCell ⟨g, 10, none⟩ (.int .i64 0))
theorem zWorld_row {V : World} {g : Nat} (h : Row39 V g zSt zFr) : Row39 (zWorld V g) g zSt zFr := by
  have r0 : Row39 V g zSt zFr := h
  have r1 : Row39 (V.setCell ⟨g, 0, none⟩ (.string ⟨#[]⟩)) g zSt zFr := row_set r0 0 _
  have r2 : Row39 ((V.setCell ⟨g, 0, none⟩ (.string ⟨#[]⟩)).setCell ⟨g, 1, none⟩ (.string ⟨#[]⟩)) g zSt zFr := row_set r1 1 _
  have r3 : Row39 (((V.setCell ⟨g, 0, none⟩ (.string ⟨#[]⟩)).setCell ⟨g, 1, none⟩ (.string ⟨#[]⟩)).setCell ⟨g, 2, none⟩ (.string ⟨#[]⟩)) g zSt zFr := row_set r2 2 _
  have r4 : Row39 ((((V.setCell ⟨g, 0, none⟩ (.string ⟨#[]⟩)).setCell ⟨g, 1, none⟩ (.string ⟨#[]⟩)).setCell ⟨g, 2, none⟩ (.string ⟨#[]⟩)).setCell ⟨g, 3, none⟩ (.string ⟨#[]⟩)) g zSt zFr := row_set r3 3 _
  have r5 : Row39 (((((V.setCell ⟨g, 0, none⟩ (.string ⟨#[]⟩)).setCell ⟨g, 1, none⟩ (.string ⟨#[]⟩)).setCell ⟨g, 2, none⟩ (.string ⟨#[]⟩)).setCell ⟨g, 3, none⟩ (.string ⟨#[]⟩)).setCell ⟨g, 4, none⟩ (.slice none 0 0)) g zSt zFr := row_set r4 4 _
  have r6 : Row39 ((((((V.setCell ⟨g, 0, none⟩ (.string ⟨#[]⟩)).setCell ⟨g, 1, none⟩ (.string ⟨#[]⟩)).setCell ⟨g, 2, none⟩ (.string ⟨#[]⟩)).setCell ⟨g, 3, none⟩ (.string ⟨#[]⟩)).setCell ⟨g, 4, none⟩ (.slice none 0 0)).setCell ⟨g, 5, none⟩ (.slice none 0 0)) g zSt zFr := row_set r5 5 _
  have r7 : Row39 (((((((V.setCell ⟨g, 0, none⟩ (.string ⟨#[]⟩)).setCell ⟨g, 1, none⟩ (.string ⟨#[]⟩)).setCell ⟨g, 2, none⟩ (.string ⟨#[]⟩)).setCell ⟨g, 3, none⟩ (.string ⟨#[]⟩)).setCell ⟨g, 4, none⟩ (.slice none 0 0)).setCell ⟨g, 5, none⟩ (.slice none 0 0)).setCell ⟨g, 6, none⟩ (.int .i64 0)) g zSt zFr := row_set r6 6 _
  have r8 : Row39 ((((((((V.setCell ⟨g, 0, none⟩ (.string ⟨#[]⟩)).setCell ⟨g, 1, none⟩ (.string ⟨#[]⟩)).setCell ⟨g, 2, none⟩ (.string ⟨#[]⟩)).setCell ⟨g, 3, none⟩ (.string ⟨#[]⟩)).setCell ⟨g, 4, none⟩ (.slice none 0 0)).setCell ⟨g, 5, none⟩ (.slice none 0 0)).setCell ⟨g, 6, none⟩ (.int .i64 0)).setCell ⟨g, 7, none⟩ (.slice none 0 0)) g zSt zFr := row_set r7 7 _
  have r9 : Row39 (((((((((V.setCell ⟨g, 0, none⟩ (.string ⟨#[]⟩)).setCell ⟨g, 1, none⟩ (.string ⟨#[]⟩)).setCell ⟨g, 2, none⟩ (.string ⟨#[]⟩)).setCell ⟨g, 3, none⟩ (.string ⟨#[]⟩)).setCell ⟨g, 4, none⟩ (.slice none 0 0)).setCell ⟨g, 5, none⟩ (.slice none 0 0)).setCell ⟨g, 6, none⟩ (.int .i64 0)).setCell ⟨g, 7, none⟩ (.slice none 0 0)).setCell ⟨g, 8, none⟩ (.slice none 0 0)) g zSt zFr := row_set r8 8 _
  have r10 : Row39 ((((((((((V.setCell ⟨g, 0, none⟩ (.string ⟨#[]⟩)).setCell ⟨g, 1, none⟩ (.string ⟨#[]⟩)).setCell ⟨g, 2, none⟩ (.string ⟨#[]⟩)).setCell ⟨g, 3, none⟩ (.string ⟨#[]⟩)).setCell ⟨g, 4, none⟩ (.slice none 0 0)).setCell ⟨g, 5, none⟩ (.slice none 0 0)).setCell ⟨g, 6, none⟩ (.int .i64 0)).setCell ⟨g, 7, none⟩ (.slice none 0 0)).setCell ⟨g, 8, none⟩ (.slice none 0 0)).setCell ⟨g, 9, none⟩ (.int .i64 0)) g zSt zFr := row_set r9 9 _
  have r11 : Row39 (((((((((((V.setCell ⟨g, 0, none⟩ (.string ⟨#[]⟩)).setCell ⟨g, 1, none⟩ (.string ⟨#[]⟩)).setCell ⟨g, 2, none⟩ (.string ⟨#[]⟩)).setCell ⟨g, 3, none⟩ (.string ⟨#[]⟩)).setCell ⟨g, 4, none⟩ (.slice none 0 0)).setCell ⟨g, 5, none⟩ (.slice none 0 0)).setCell ⟨g, 6, none⟩ (.int .i64 0)).setCell ⟨g, 7, none⟩ (.slice none 0 0)).setCell ⟨g, 8, none⟩ (.slice none 0 0)).setCell ⟨g, 9, none⟩ (.int .i64 0)).setCell ⟨g, 10, none⟩ (.int .i64 0)) g zSt zFr := row_set r10 10 _
  exact r11
theorem zWorld_other {V : World} {g k : Nat} (h : g ≠ k) : (zWorld V g).heap[k]? = V.heap[k]? := by
  unfold zWorld
  repeat rw [row_other h]
theorem zWorld_size {V : World} {g : Nat} : (zWorld V g).heap.size = V.heap.size := by simp [zWorld, World.setCell]
theorem zWorld_below {A V : World} {n g : Nat} (h : Below n A V) (hg : n ≤ g) : Below n A (zWorld V g) := by
  unfold zWorld
  repeat (refine Below.setCell ?_ hg _)
  exact h
theorem getPost_none {S : List Nat} {W : World} {s : Nat} {cap : Int} {L : List Lk} {m : Lk → Bool} {e : Ending} {w' : World} (h : bestOf m L = none) (he : e = .returned (.tuple #[.agg (stC zSt zFr), .bool false])) (hI : Inv S w' s cap L) (hb : Below W.heap.size W w') : GetPost S W s cap L m e w' := by
  unfold GetPost
  rw [h]
  exact ⟨he, hI, hb⟩
theorem getPost_some {S : List Nat} {W : World} {s : Nat} {cap : Int} {L : List Lk} {m : Lk → Bool} {e : Ending} {w' : World} {b : Lk} (h : bestOf m L = some b) (r' : Fr) (i : Nat) (hi : L[i]? = some b) (he : e = .returned (.tuple #[.agg (stC b.x r'), .bool true])) (hr : RdO w' W.heap.size b.x r') (hI : Inv S w' s cap (b :: L.eraseIdx i)) (hb : Hold (own1 s L) W w') : GetPost S W s cap L m e w' := by
  unfold GetPost
  rw [h]
  exact ⟨r', i, hi, he, hr, hI, hb⟩
theorem erase_ne {W : World} {s : Nat} {cap used : Int} {L : List Lk} (h : Chain W s cap used L) {i : Nat} {b : Lk} (hb : L[i]? = some b) : ∀ (j : Nat) (m : Lk), (L.eraseIdx i)[j]? = some m → b.b ≠ m.b := by
  intro j m hj e
  rw [List.getElem?_eraseIdx] at hj
  split at hj
  · have := h.nd i j b m hb hj e
    omega
  · have := h.nd i (j + 1) b m hb hj e
    omega
theorem erase_mem {L : List Lk} {i : Nat} {m : Lk} (h : m ∈ L.eraseIdx i) : m ∈ L := (List.eraseIdx_sublist L i).subset h
theorem front_sub {s : Nat} {L : List Lk} {i : Nat} {b : Lk} (hb : b ∈ L) : ∀ k ∈ s :: b.b :: (L.eraseIdx i).map (·.b), k ∈ own1 s L := by
  intro k hk
  rcases List.mem_cons.1 hk with rfl | hk
  · exact .head _
  rcases List.mem_cons.1 hk with rfl | hk
  · exact .tail _ (List.mem_map.2 ⟨b, hb, rfl⟩)
  · obtain ⟨m, hm, rfl⟩ := List.mem_map.1 hk
    exact .tail _ (List.mem_map.2 ⟨m, erase_mem hm, rfl⟩)
theorem front_lt {s : Nat} {L : List Lk} {i : Nat} {b : Lk} (hb : b ∈ L) {n : Nat} (h : ∀ k ∈ own1 s L, k < n) : ∀ k ∈ s :: b.b :: (L.eraseIdx i).map (·.b), k < n := fun k hk => h k (front_sub hb k hk)
set_option maxHeartbeats 4000000 in
set_option maxRecDepth 100000 in
theorem get_calls (k : Nat) (S : List Nat) (W : World) (s : Nat) (cap : Int) (L : List Lk) (hI : Inv S W s cap L) (hL : ∀ l ∈ L, Fine k l.x) (y : St) (ry : Fr) (hy : Fine k y) (hr : Fix (own1 s L) W y ry) :
    Calls Tryd.prog 8 #[.pointer (some ⟨s, 0, none⟩), .agg (reqC y ry)] W (GetPost S W s cap L (fun l => mB k l.x y)) := by
  refine (callsIn_wide (n := 9)).1 ?_
  have HI := Lib.hid hI
  have HL := Lib.hid hL
  have HY := Lib.hid hy
  have HR := Lib.hid hr
  clear hI hL hy hr
  refine callsIn_of_wp_marks Tryd.func8 rfl trivial ?_ rfl
  simp only [Tryd.ntmps8, List.size_toArray, List.length_cons, List.length_nil, Nat.reduceAdd, Nat.reduceSub, Array.replicate_succ, Array.replicate_zero, List.push_toArray, List.append_toArray, List.nil_append, List.cons_append]
  gi_wp2_with (first | (refine ⟨trivial, ?_⟩; gi_at_call 25; refine (callsIn_wide.2 (ok_calls _ s cap (total L) _ _ (HI.out.ch.hold (S := []) (Hold.of_below (below_alloc (below_alloc (Below.refl _ _) _) _)) (by simp) (by simp)).st)).mono ?_; rintro e w' ⟨rfl, rfl⟩) | (refine ⟨trivial, ?_⟩; gi_at_call 26; refine (callsIn_wide.2 (links_calls _ _)).mono ?_; rintro e w' ⟨rfl, rfl⟩))
  obtain ⟨W4, hW4⟩ : ∃ W4, ((((W.alloc (.cells (reqC y ry) 32)).alloc (.cells #[.string ⟨#[]⟩, .string ⟨#[]⟩, .string ⟨#[]⟩, .string ⟨#[]⟩, .slice none 0 0, .slice none 0 0, .int .i64 0, .slice none 0 0, .slice none 0 0, .int .i64 0, .int .i64 0] 39)).alloc (.cells #[.pointer none] 54)).alloc (.cells #[.pointer (some ⟨s, 0, none⟩)] 23)) = W4 := ⟨_, rfl⟩
  have hq : ReqAt W4 W.heap.size y ry := by
    rw [← hW4]
    exact (Below.heap_alloc _ _ _ (by simp; omega)).trans ((Below.heap_alloc _ _ _ (by simp; omega)).trans ((Below.heap_alloc _ _ _ (by simp)).trans (World.alloc_heap_new W _)))
  have hz : Row39 W4 (W.heap.size + 1) zSt zFr := by
    rw [← hW4]
    have h := World.alloc_heap_new (W.alloc (.cells (reqC y ry) 32)) (.cells #[.string ⟨#[]⟩, .string ⟨#[]⟩, .string ⟨#[]⟩, .string ⟨#[]⟩, .slice none 0 0, .slice none 0 0, .int .i64 0, .slice none 0 0, .slice none 0 0, .int .i64 0, .int .i64 0] 39)
    rw [World.size_alloc] at h
    exact (Below.heap_alloc _ _ _ (by simp)).trans ((Below.heap_alloc _ _ _ (by simp)).trans h)
  have b2 : boxC W4 (W.heap.size + 2) (.pointer none) 54 := by
    rw [← hW4]
    have h := boxC.new ((W.alloc (.cells (reqC y ry) 32)).alloc (.cells #[.string ⟨#[]⟩, .string ⟨#[]⟩, .string ⟨#[]⟩, .string ⟨#[]⟩, .slice none 0 0, .slice none 0 0, .int .i64 0, .slice none 0 0, .slice none 0 0, .int .i64 0, .int .i64 0] 39)) (.pointer none) 54
    rw [World.size_alloc, World.size_alloc] at h
    exact h.alloc _
  have b3 : boxC W4 (W.heap.size + 3) (.pointer (some ⟨s, 0, none⟩)) 23 := by
    rw [← hW4]
    have h := boxC.new (((W.alloc (.cells (reqC y ry) 32)).alloc (.cells #[.string ⟨#[]⟩, .string ⟨#[]⟩, .string ⟨#[]⟩, .string ⟨#[]⟩, .slice none 0 0, .slice none 0 0, .int .i64 0, .slice none 0 0, .slice none 0 0, .int .i64 0, .int .i64 0] 39)).alloc (.cells #[.pointer none] 54)) (.pointer (some ⟨s, 0, none⟩)) 23
    rw [World.size_alloc, World.size_alloc, World.size_alloc] at h
    exact h
  have hb4 : Below W.heap.size W W4 := by rw [← hW4]; exact below_alloc (below_alloc (below_alloc (below_alloc (Below.refl _ _) _) _) _) _
  have hz4 : W4.heap.size = W.heap.size + 4 := by rw [← hW4]; simp
  rw [hW4]
  have HW4 := Lib.hid hW4
  have HZ4 := Lib.hid hz4
  clear hW4 hz4
  have h0 : GetI W s cap L (fun l => mB k l.x y) y ry W.heap.size [] W4 := ⟨HI.out.ch.hold (S := []) (Hold.of_below hb4) (by simp) (by simp), hb4, hq, hz, b2, b3⟩
  have H0 := Lib.hid h0
  clear hq hz b2 b3 hb4 h0
  have HND := Lib.hid (nodup_of HI.out.ch)
  refine wpIn_over rfl (by omega) (gf := 45) (lb := #[.pointer (some ⟨W.heap.size + 1 + 1 + 1, 0, none⟩)]) rfl trivial (enters_of Tryd.func45 (by kernel_rfl) rfl) (encs := encL) (fun _ => rfl) (xs := L) (iter_over Fence.wide _ trivial rfl (by omega) (W.heap.size + 3) s L HND.out) (GetI W s cap L (fun l => mB k l.x y) y ry W.heap.size) (fun pre V h => chain_iter h.ch h.b3) (GetI.ownFrom W s cap L _ y ry W.heap.size W4.heap.size (by rw [HZ4.out]; omega)) H0.out (fun x => { tmps := #[.pointer (some ⟨s, 0, none⟩), .agg (reqC y ry), undef, .pointer (some ⟨W.heap.size, 0, none⟩), .pointer (some ⟨W.heap.size + 1, 0, none⟩), .bool false, .pointer (some ⟨W.heap.size + 1 + 1, 0, none⟩), .pointer (some ⟨x.b, 0, none⟩), .pointer (some ⟨s, 0, none⟩), .bool true, .bool false, undef, .pointer (some ⟨s, 0, none⟩), .func (.func 45) #[] #[.pointer (some ⟨W.heap.size + 1 + 1 + 1, 0, none⟩)], .pointer (some ⟨x.b, 0, none⟩), undef, undef, undef, undef, undef, undef, undef, undef, undef, undef, undef, undef, undef, undef, undef, undef, undef, undef, undef, undef, undef, undef, undef, undef, undef, undef, undef, undef, undef, undef, undef, undef, undef, undef, undef, undef, undef, undef], defers := [] }) ?assign ?body ?done
  case assign =>
    intro l x V K hK
    dsimp only [encL]
    gi_wp2
    exact hK
  case body =>
    intro ll pre l rest V hx hi
    have hmem : l ∈ L := by rw [hx]; simp
    have hat : L[pre.length]? = some l := by rw [hx]; simp
    have HX := Lib.hid hx
    have HIV := Lib.hid hi
    have HM := Lib.hid hmem
    have HAT := Lib.hid hat
    have hbm : ∀ b, bestOf (fun l => mB k l.x y) pre = some b → b ∈ L := fun b hb => by rw [hx]; exact List.mem_append_left _ (bestOf_mem hb).1
    have hcall := mB_calls k l.x y l.r ry V.drew (HL.out l hmem) HY.out ((HI.out.fix l hmem) _ ((Hold.of_below hi.hold).drew)) (HR.out _ ((Hold.of_below hi.hold).drew))
    have HBM := Lib.hid hbm
    have hcall : ∀ w1, Below V.heap.size V w1 → Calls Tryd.prog 27 #[.agg (stC l.x l.r), .agg (reqC y ry)] w1 fun e w' => e = .returned (.bool (mB k l.x y)) ∧ Below w1.heap.size w1 w' := fun w1 hb =>
      mB_calls k l.x y l.r ry w1 (HL.out l hmem) HY.out ((HI.out.fix l hmem) _ ((Hold.of_below hi.hold).trans (Hold.of_below hb))) (HR.out _ ((Hold.of_below hi.hold).trans (Hold.of_below hb)))
    clear hx hi hmem hat hbm
    cases hq : mB k l.x y with
    | false =>
      rw [hq] at hcall
      have HCALL := Lib.hid hcall
      have HQ := Lib.hid hq
      clear hcall hq
      gi_wp2
      refine wpIn_region_put (by kernel_rfl) (fun _ => trivial) [15, 16, 17, 18, 19, 20, 21, 22, 23, 24, 25, 26, 27, 28, 29, 30, 31, 32, 33, 34, 35, 36, 37] [(15, .pointer (some ⟨l.b, 0, none⟩)), (16, .pointer (some ⟨l.b, 0, none⟩)), (17, .pointer (some ⟨l.b, 0, none⟩)), (18, .agg (stC l.x l.r)), (19, .agg (reqC y ry)), (20, .bool false), (21, .bool false), (22, undef), (23, undef), (24, undef), (25, undef), (26, undef), (27, undef), (28, undef), (29, undef), (30, undef), (31, undef), (32, undef), (33, undef), (34, undef), (35, undef), (36, undef), (37, .bool false)] { tmps := #[.pointer (some ⟨s, 0, none⟩), .agg (reqC y ry), undef, .pointer (some ⟨W.heap.size, 0, none⟩), .pointer (some ⟨W.heap.size + 1, 0, none⟩), .bool false, .pointer (some ⟨W.heap.size + 1 + 1, 0, none⟩), .pointer (some ⟨l.b, 0, none⟩), .pointer (some ⟨s, 0, none⟩), .bool true, .bool false, undef, .pointer (some ⟨s, 0, none⟩), .func (.func 45) #[] #[.pointer (some ⟨W.heap.size + 1 + 1 + 1, 0, none⟩)], .pointer (some ⟨l.b, 0, none⟩), .pointer (some ⟨l.b, 0, none⟩), .pointer (some ⟨l.b, 0, none⟩), .pointer (some ⟨l.b, 0, none⟩), .agg (stC l.x l.r), .agg (reqC y ry), .bool false, .bool false, undef, undef, undef, undef, undef, undef, undef, undef, undef, undef, undef, undef, undef, undef, undef, .bool false, undef, undef, undef, undef, undef, undef, undef, undef, undef, undef, undef, undef, undef, undef, undef], defers := [] } (GetR V W s cap L (fun l => mB k l.x y) y ry W.heap.size pre) (by kernel_rfl) (by kernel_rfl) ?ghe ?ghfin ⟨HIV.out.drew_, (Below.refl _ V).drew⟩ ?gops ?grest
      case ghe => rfl
      case ghfin => simp only [putAll, List.foldl, Act.put, List.setIfInBounds_toArray, List.set]
      case gops =>
        refine ⟨?_, ?_, ?_, ?_, ?_, ?_, ?_, ?_, ?_, ?_, ?_, ?_, ?_, ?_, ?_, ?_, ?_, ?_, ?_, ?_, ?_, ?_, ?_, trivial⟩
        all_goals first
          | (refine det_skip (by rfl) ?_; rfl)
          | (refine det_go (by rfl) ?_
             intro w1 hw
             have cl := (hw.1.ch.lk _ l HAT.out)
             have c0 : w1.cell? ⟨l.b, 0, none⟩ = some (.string l.x.meth) := (row_cell cl 0).trans rfl
             have c1 : w1.cell? ⟨l.b, 1, none⟩ = some (.string l.x.sch) := (row_cell cl 1).trans rfl
             have c2 : w1.cell? ⟨l.b, 2, none⟩ = some (.string l.x.host) := (row_cell cl 2).trans rfl
             have c3 : w1.cell? ⟨l.b, 3, none⟩ = some (.string l.x.path) := (row_cell cl 3).trans rfl
             have c4 : w1.cell? ⟨l.b, 4, none⟩ = some (.slice l.r.a4 l.x.qf.length l.r.c4) := (row_cell cl 4).trans rfl
             have c5 : w1.cell? ⟨l.b, 5, none⟩ = some (.slice l.r.a5 l.x.qb.length l.r.c5) := (row_cell cl 5).trans rfl
             have c6 : w1.cell? ⟨l.b, 6, none⟩ = some (.int .i64 l.x.stat) := (row_cell cl 6).trans rfl
             have c7 : w1.cell? ⟨l.b, 7, none⟩ = some (.slice l.r.a7 l.x.sf.length l.r.c7) := (row_cell cl 7).trans rfl
             have c8 : w1.cell? ⟨l.b, 8, none⟩ = some (.slice l.r.a8 l.x.sb.length l.r.c8) := (row_cell cl 8).trans rfl
             have c9 : w1.cell? ⟨l.b, 9, none⟩ = some (.int .i64 l.x.asked) := (row_cell cl 9).trans rfl
             have c10 : w1.cell? ⟨l.b, 10, none⟩ = some (.int .i64 l.x.came) := (row_cell cl 10).trans rfl
             have q0 : w1.cell? ⟨W.heap.size, 0, none⟩ = some (.string y.meth) := (row_cell hw.1.q 0).trans rfl
             have q1 : w1.cell? ⟨W.heap.size, 1, none⟩ = some (.string y.sch) := (row_cell hw.1.q 1).trans rfl
             have q2 : w1.cell? ⟨W.heap.size, 2, none⟩ = some (.string y.host) := (row_cell hw.1.q 2).trans rfl
             have q3 : w1.cell? ⟨W.heap.size, 3, none⟩ = some (.string y.path) := (row_cell hw.1.q 3).trans rfl
             have q4 : w1.cell? ⟨W.heap.size, 4, none⟩ = some (.slice ry.a4 y.qf.length ry.c4) := (row_cell hw.1.q 4).trans rfl
             have q5 : w1.cell? ⟨W.heap.size, 5, none⟩ = some (.slice ry.a5 y.qb.length ry.c5) := (row_cell hw.1.q 5).trans rfl
             have hcall := HCALL.out w1 hw.2
       
             have HW := Lib.hid hw
             have HCL := Lib.hid hcall
             clear hw hcall cl
             gi_wp2_with (refine ⟨trivial, ?_⟩; gi_at_call 27; refine (CallsIn.inRound ll (callsIn_wide.2 HCL.out)).mono ?_; rintro e w2 ⟨rfl, hb2⟩)
             first
               | exact HW.out
               | exact HW.out.below hb2
               | exact ⟨rfl, HW.out⟩
               | exact ⟨rfl, HW.out.below hb2⟩)
      case grest =>
        intro w1 hw
        have HB1 := Lib.hid hw.2
        skip
        clear hw
        gi_wp2
        all_goals exact get_no HIV.out HB1.out (pick_no (l := l) HQ.out) _

    | true =>
      rw [hq] at hcall
      have HCALL := Lib.hid hcall
      have HQ := Lib.hid hq
      clear hcall hq
      cases hbest : bestOf (fun l => mB k l.x y) pre with
      | none =>
        have HBEST := Lib.hid hbest
        clear hbest
        gi_wp2
        refine wpIn_region_put (by kernel_rfl) (fun _ => trivial) [15, 16, 17, 18, 19, 20, 21, 22, 23, 24, 25, 26, 27, 28, 29, 30, 31, 32, 33, 34, 35, 36, 37] [(15, .pointer (some ⟨l.b, 0, none⟩)), (16, .pointer (some ⟨l.b, 0, none⟩)), (17, .pointer (some ⟨l.b, 0, none⟩)), (18, .agg (stC l.x l.r)), (19, .agg (reqC y ry)), (20, .bool true), (21, .bool true), (22, .pointer none), (23, .bool true), (24, .bool true), (25, undef), (26, undef), (27, undef), (28, undef), (29, undef), (30, undef), (31, undef), (32, undef), (33, undef), (34, undef), (35, undef), (36, .bool true), (37, .bool true)] { tmps := #[.pointer (some ⟨s, 0, none⟩), .agg (reqC y ry), undef, .pointer (some ⟨W.heap.size, 0, none⟩), .pointer (some ⟨W.heap.size + 1, 0, none⟩), .bool false, .pointer (some ⟨W.heap.size + 1 + 1, 0, none⟩), .pointer (some ⟨l.b, 0, none⟩), .pointer (some ⟨s, 0, none⟩), .bool true, .bool false, undef, .pointer (some ⟨s, 0, none⟩), .func (.func 45) #[] #[.pointer (some ⟨W.heap.size + 1 + 1 + 1, 0, none⟩)], .pointer (some ⟨l.b, 0, none⟩), .pointer (some ⟨l.b, 0, none⟩), .pointer (some ⟨l.b, 0, none⟩), .pointer (some ⟨l.b, 0, none⟩), .agg (stC l.x l.r), .agg (reqC y ry), .bool true, .bool true, .pointer none, .bool true, .bool true, undef, undef, undef, undef, undef, undef, undef, undef, undef, undef, undef, .bool true, .bool true, undef, undef, undef, undef, undef, undef, undef, undef, undef, undef, undef, undef, undef, undef, undef], defers := [] } (GetR V W s cap L (fun l => mB k l.x y) y ry W.heap.size pre) (by kernel_rfl) (by kernel_rfl) ?ghe ?ghfin ⟨HIV.out.drew_, (Below.refl _ V).drew⟩ ?gops ?grest
        case ghe => rfl
        case ghfin => simp only [putAll, List.foldl, Act.put, List.setIfInBounds_toArray, List.set]
        case gops =>
          refine ⟨?_, ?_, ?_, ?_, ?_, ?_, ?_, ?_, ?_, ?_, ?_, ?_, ?_, ?_, ?_, ?_, ?_, ?_, ?_, ?_, ?_, ?_, ?_, trivial⟩
          all_goals first
            | (refine det_skip (by rfl) ?_; rfl)
            | (refine det_go (by rfl) ?_
               intro w1 hw
               have cl := (hw.1.ch.lk _ l HAT.out)
               have c0 : w1.cell? ⟨l.b, 0, none⟩ = some (.string l.x.meth) := (row_cell cl 0).trans rfl
               have c1 : w1.cell? ⟨l.b, 1, none⟩ = some (.string l.x.sch) := (row_cell cl 1).trans rfl
               have c2 : w1.cell? ⟨l.b, 2, none⟩ = some (.string l.x.host) := (row_cell cl 2).trans rfl
               have c3 : w1.cell? ⟨l.b, 3, none⟩ = some (.string l.x.path) := (row_cell cl 3).trans rfl
               have c4 : w1.cell? ⟨l.b, 4, none⟩ = some (.slice l.r.a4 l.x.qf.length l.r.c4) := (row_cell cl 4).trans rfl
               have c5 : w1.cell? ⟨l.b, 5, none⟩ = some (.slice l.r.a5 l.x.qb.length l.r.c5) := (row_cell cl 5).trans rfl
               have c6 : w1.cell? ⟨l.b, 6, none⟩ = some (.int .i64 l.x.stat) := (row_cell cl 6).trans rfl
               have c7 : w1.cell? ⟨l.b, 7, none⟩ = some (.slice l.r.a7 l.x.sf.length l.r.c7) := (row_cell cl 7).trans rfl
               have c8 : w1.cell? ⟨l.b, 8, none⟩ = some (.slice l.r.a8 l.x.sb.length l.r.c8) := (row_cell cl 8).trans rfl
               have c9 : w1.cell? ⟨l.b, 9, none⟩ = some (.int .i64 l.x.asked) := (row_cell cl 9).trans rfl
               have c10 : w1.cell? ⟨l.b, 10, none⟩ = some (.int .i64 l.x.came) := (row_cell cl 10).trans rfl
               have q0 : w1.cell? ⟨W.heap.size, 0, none⟩ = some (.string y.meth) := (row_cell hw.1.q 0).trans rfl
               have q1 : w1.cell? ⟨W.heap.size, 1, none⟩ = some (.string y.sch) := (row_cell hw.1.q 1).trans rfl
               have q2 : w1.cell? ⟨W.heap.size, 2, none⟩ = some (.string y.host) := (row_cell hw.1.q 2).trans rfl
               have q3 : w1.cell? ⟨W.heap.size, 3, none⟩ = some (.string y.path) := (row_cell hw.1.q 3).trans rfl
               have q4 : w1.cell? ⟨W.heap.size, 4, none⟩ = some (.slice ry.a4 y.qf.length ry.c4) := (row_cell hw.1.q 4).trans rfl
               have q5 : w1.cell? ⟨W.heap.size, 5, none⟩ = some (.slice ry.a5 y.qb.length ry.c5) := (row_cell hw.1.q 5).trans rfl
               have hcall := HCALL.out w1 hw.2
               have d2 := hw.1.none_ HBEST.out
               have HW := Lib.hid hw
               have HCL := Lib.hid hcall
               clear hw hcall cl
               gi_wp2_with (refine ⟨trivial, ?_⟩; gi_at_call 27; refine (CallsIn.inRound ll (callsIn_wide.2 HCL.out)).mono ?_; rintro e w2 ⟨rfl, hb2⟩)
               first
                 | exact HW.out
                 | exact HW.out.below hb2
                 | exact ⟨rfl, HW.out⟩
                 | exact ⟨rfl, HW.out.below hb2⟩)
        case grest =>
          intro w1 hw
          have HB1 := Lib.hid hw.2
          have d2 := hw.1.none_ HBEST.out
          have d3 : w1.frozen? ⟨W.heap.size + 1 + 1, 0, none⟩ = false := hw.1.b2.free
          clear hw
          gi_wp2
          all_goals exact get_yes HIV.out (Nat.le_refl _) HI.out.ltW HB1.out (pick_none (l := l) HQ.out HBEST.out) _

      | some b =>
        obtain ⟨ib, hib⟩ := List.getElem?_of_mem (HBM.out b hbest)
        have HIB := Lib.hid hib
        have HBEST := Lib.hid hbest
        clear hbest hib
        by_cases hlt : b.x.came < l.x.came
        · have hlt' : decide (b.x.came < l.x.came) = true := decide_eq_true hlt
          gi_wp2
          refine wpIn_region_put (by kernel_rfl) (fun _ => trivial) [15, 16, 17, 18, 19, 20, 21, 22, 23, 24, 25, 26, 27, 28, 29, 30, 31, 32, 33, 34, 35, 36, 37] [(15, .pointer (some ⟨l.b, 0, none⟩)), (16, .pointer (some ⟨l.b, 0, none⟩)), (17, .pointer (some ⟨l.b, 0, none⟩)), (18, .agg (stC l.x l.r)), (19, .agg (reqC y ry)), (20, .bool true), (21, .bool true), (22, .pointer (some ⟨b.b, 0, none⟩)), (23, .bool false), (24, .bool false), (25, .pointer (some ⟨l.b, 0, none⟩)), (26, .pointer (some ⟨l.b, 0, none⟩)), (27, .pointer (some ⟨l.b, 0, none⟩)), (28, .pointer (some ⟨l.b, 10, none⟩)), (29, .int .i64 l.x.came), (30, .pointer (some ⟨b.b, 0, none⟩)), (31, .pointer (some ⟨b.b, 0, none⟩)), (32, .pointer (some ⟨b.b, 0, none⟩)), (33, .pointer (some ⟨b.b, 10, none⟩)), (34, .int .i64 b.x.came), (35, .bool true), (36, .bool true), (37, .bool true)] { tmps := #[.pointer (some ⟨s, 0, none⟩), .agg (reqC y ry), undef, .pointer (some ⟨W.heap.size, 0, none⟩), .pointer (some ⟨W.heap.size + 1, 0, none⟩), .bool false, .pointer (some ⟨W.heap.size + 1 + 1, 0, none⟩), .pointer (some ⟨l.b, 0, none⟩), .pointer (some ⟨s, 0, none⟩), .bool true, .bool false, undef, .pointer (some ⟨s, 0, none⟩), .func (.func 45) #[] #[.pointer (some ⟨W.heap.size + 1 + 1 + 1, 0, none⟩)], .pointer (some ⟨l.b, 0, none⟩), .pointer (some ⟨l.b, 0, none⟩), .pointer (some ⟨l.b, 0, none⟩), .pointer (some ⟨l.b, 0, none⟩), .agg (stC l.x l.r), .agg (reqC y ry), .bool true, .bool true, .pointer (some ⟨b.b, 0, none⟩), .bool false, .bool false, .pointer (some ⟨l.b, 0, none⟩), .pointer (some ⟨l.b, 0, none⟩), .pointer (some ⟨l.b, 0, none⟩), .pointer (some ⟨l.b, 10, none⟩), .int .i64 l.x.came, .pointer (some ⟨b.b, 0, none⟩), .pointer (some ⟨b.b, 0, none⟩), .pointer (some ⟨b.b, 0, none⟩), .pointer (some ⟨b.b, 10, none⟩), .int .i64 b.x.came, .bool true, .bool true, .bool true, undef, undef, undef, undef, undef, undef, undef, undef, undef, undef, undef, undef, undef, undef, undef], defers := [] } (GetR V W s cap L (fun l => mB k l.x y) y ry W.heap.size pre) (by kernel_rfl) (by kernel_rfl) ?ghe ?ghfin ⟨HIV.out.drew_, (Below.refl _ V).drew⟩ ?gops ?grest
          case ghe => rfl
          case ghfin => simp only [putAll, List.foldl, Act.put, List.setIfInBounds_toArray, List.set]
          case gops =>
            refine ⟨?_, ?_, ?_, ?_, ?_, ?_, ?_, ?_, ?_, ?_, ?_, ?_, ?_, ?_, ?_, ?_, ?_, ?_, ?_, ?_, ?_, ?_, ?_, trivial⟩
            all_goals first
              | (refine det_skip (by rfl) ?_; rfl)
              | (refine det_go (by rfl) ?_
                 intro w1 hw
                 have cl := (hw.1.ch.lk _ l HAT.out)
                 have c0 : w1.cell? ⟨l.b, 0, none⟩ = some (.string l.x.meth) := (row_cell cl 0).trans rfl
                 have c1 : w1.cell? ⟨l.b, 1, none⟩ = some (.string l.x.sch) := (row_cell cl 1).trans rfl
                 have c2 : w1.cell? ⟨l.b, 2, none⟩ = some (.string l.x.host) := (row_cell cl 2).trans rfl
                 have c3 : w1.cell? ⟨l.b, 3, none⟩ = some (.string l.x.path) := (row_cell cl 3).trans rfl
                 have c4 : w1.cell? ⟨l.b, 4, none⟩ = some (.slice l.r.a4 l.x.qf.length l.r.c4) := (row_cell cl 4).trans rfl
                 have c5 : w1.cell? ⟨l.b, 5, none⟩ = some (.slice l.r.a5 l.x.qb.length l.r.c5) := (row_cell cl 5).trans rfl
                 have c6 : w1.cell? ⟨l.b, 6, none⟩ = some (.int .i64 l.x.stat) := (row_cell cl 6).trans rfl
                 have c7 : w1.cell? ⟨l.b, 7, none⟩ = some (.slice l.r.a7 l.x.sf.length l.r.c7) := (row_cell cl 7).trans rfl
                 have c8 : w1.cell? ⟨l.b, 8, none⟩ = some (.slice l.r.a8 l.x.sb.length l.r.c8) := (row_cell cl 8).trans rfl
                 have c9 : w1.cell? ⟨l.b, 9, none⟩ = some (.int .i64 l.x.asked) := (row_cell cl 9).trans rfl
                 have c10 : w1.cell? ⟨l.b, 10, none⟩ = some (.int .i64 l.x.came) := (row_cell cl 10).trans rfl
                 have q0 : w1.cell? ⟨W.heap.size, 0, none⟩ = some (.string y.meth) := (row_cell hw.1.q 0).trans rfl
                 have q1 : w1.cell? ⟨W.heap.size, 1, none⟩ = some (.string y.sch) := (row_cell hw.1.q 1).trans rfl
                 have q2 : w1.cell? ⟨W.heap.size, 2, none⟩ = some (.string y.host) := (row_cell hw.1.q 2).trans rfl
                 have q3 : w1.cell? ⟨W.heap.size, 3, none⟩ = some (.string y.path) := (row_cell hw.1.q 3).trans rfl
                 have q4 : w1.cell? ⟨W.heap.size, 4, none⟩ = some (.slice ry.a4 y.qf.length ry.c4) := (row_cell hw.1.q 4).trans rfl
                 have q5 : w1.cell? ⟨W.heap.size, 5, none⟩ = some (.slice ry.a5 y.qb.length ry.c5) := (row_cell hw.1.q 5).trans rfl
                 have hcall := HCALL.out w1 hw.2
                 have d2 := hw.1.some_ HBEST.out
                 have d4 : w1.cell? ⟨l.b, 10, none⟩ = some (.int .i64 l.x.came) := (row_cell (hw.1.ch.lk _ l HAT.out) 10).trans rfl
                 have d5 : w1.cell? ⟨b.b, 10, none⟩ = some (.int .i64 b.x.came) := (row_cell (hw.1.ch.lk _ b HIB.out) 10).trans rfl
                 have HW := Lib.hid hw
                 have HCL := Lib.hid hcall
                 clear hw hcall cl
                 gi_wp2_with (refine ⟨trivial, ?_⟩; gi_at_call 27; refine (CallsIn.inRound ll (callsIn_wide.2 HCL.out)).mono ?_; rintro e w2 ⟨rfl, hb2⟩)
                 first
                   | exact HW.out
                   | exact HW.out.below hb2
                   | exact ⟨rfl, HW.out⟩
                   | exact ⟨rfl, HW.out.below hb2⟩)
          case grest =>
            intro w1 hw
            have HB1 := Lib.hid hw.2
            have d2 := hw.1.some_ HBEST.out
            have d3 : w1.frozen? ⟨W.heap.size + 1 + 1, 0, none⟩ = false := hw.1.b2.free
            clear hw
            gi_wp2
            all_goals exact get_yes HIV.out (Nat.le_refl _) HI.out.ltW HB1.out (pick_lt (l := l) HQ.out HBEST.out hlt') _

        · have hlt' : decide (b.x.came < l.x.came) = false := decide_eq_false hlt
          gi_wp2
          refine wpIn_region_put (by kernel_rfl) (fun _ => trivial) [15, 16, 17, 18, 19, 20, 21, 22, 23, 24, 25, 26, 27, 28, 29, 30, 31, 32, 33, 34, 35, 36, 37] [(15, .pointer (some ⟨l.b, 0, none⟩)), (16, .pointer (some ⟨l.b, 0, none⟩)), (17, .pointer (some ⟨l.b, 0, none⟩)), (18, .agg (stC l.x l.r)), (19, .agg (reqC y ry)), (20, .bool true), (21, .bool true), (22, .pointer (some ⟨b.b, 0, none⟩)), (23, .bool false), (24, .bool false), (25, .pointer (some ⟨l.b, 0, none⟩)), (26, .pointer (some ⟨l.b, 0, none⟩)), (27, .pointer (some ⟨l.b, 0, none⟩)), (28, .pointer (some ⟨l.b, 10, none⟩)), (29, .int .i64 l.x.came), (30, .pointer (some ⟨b.b, 0, none⟩)), (31, .pointer (some ⟨b.b, 0, none⟩)), (32, .pointer (some ⟨b.b, 0, none⟩)), (33, .pointer (some ⟨b.b, 10, none⟩)), (34, .int .i64 b.x.came), (35, .bool false), (36, .bool false), (37, .bool false)] { tmps := #[.pointer (some ⟨s, 0, none⟩), .agg (reqC y ry), undef, .pointer (some ⟨W.heap.size, 0, none⟩), .pointer (some ⟨W.heap.size + 1, 0, none⟩), .bool false, .pointer (some ⟨W.heap.size + 1 + 1, 0, none⟩), .pointer (some ⟨l.b, 0, none⟩), .pointer (some ⟨s, 0, none⟩), .bool true, .bool false, undef, .pointer (some ⟨s, 0, none⟩), .func (.func 45) #[] #[.pointer (some ⟨W.heap.size + 1 + 1 + 1, 0, none⟩)], .pointer (some ⟨l.b, 0, none⟩), .pointer (some ⟨l.b, 0, none⟩), .pointer (some ⟨l.b, 0, none⟩), .pointer (some ⟨l.b, 0, none⟩), .agg (stC l.x l.r), .agg (reqC y ry), .bool true, .bool true, .pointer (some ⟨b.b, 0, none⟩), .bool false, .bool false, .pointer (some ⟨l.b, 0, none⟩), .pointer (some ⟨l.b, 0, none⟩), .pointer (some ⟨l.b, 0, none⟩), .pointer (some ⟨l.b, 10, none⟩), .int .i64 l.x.came, .pointer (some ⟨b.b, 0, none⟩), .pointer (some ⟨b.b, 0, none⟩), .pointer (some ⟨b.b, 0, none⟩), .pointer (some ⟨b.b, 10, none⟩), .int .i64 b.x.came, .bool false, .bool false, .bool false, undef, undef, undef, undef, undef, undef, undef, undef, undef, undef, undef, undef, undef, undef, undef], defers := [] } (GetR V W s cap L (fun l => mB k l.x y) y ry W.heap.size pre) (by kernel_rfl) (by kernel_rfl) ?ghe ?ghfin ⟨HIV.out.drew_, (Below.refl _ V).drew⟩ ?gops ?grest
          case ghe => rfl
          case ghfin => simp only [putAll, List.foldl, Act.put, List.setIfInBounds_toArray, List.set]
          case gops =>
            refine ⟨?_, ?_, ?_, ?_, ?_, ?_, ?_, ?_, ?_, ?_, ?_, ?_, ?_, ?_, ?_, ?_, ?_, ?_, ?_, ?_, ?_, ?_, ?_, trivial⟩
            all_goals first
              | (refine det_skip (by rfl) ?_; rfl)
              | (refine det_go (by rfl) ?_
                 intro w1 hw
                 have cl := (hw.1.ch.lk _ l HAT.out)
                 have c0 : w1.cell? ⟨l.b, 0, none⟩ = some (.string l.x.meth) := (row_cell cl 0).trans rfl
                 have c1 : w1.cell? ⟨l.b, 1, none⟩ = some (.string l.x.sch) := (row_cell cl 1).trans rfl
                 have c2 : w1.cell? ⟨l.b, 2, none⟩ = some (.string l.x.host) := (row_cell cl 2).trans rfl
                 have c3 : w1.cell? ⟨l.b, 3, none⟩ = some (.string l.x.path) := (row_cell cl 3).trans rfl
                 have c4 : w1.cell? ⟨l.b, 4, none⟩ = some (.slice l.r.a4 l.x.qf.length l.r.c4) := (row_cell cl 4).trans rfl
                 have c5 : w1.cell? ⟨l.b, 5, none⟩ = some (.slice l.r.a5 l.x.qb.length l.r.c5) := (row_cell cl 5).trans rfl
                 have c6 : w1.cell? ⟨l.b, 6, none⟩ = some (.int .i64 l.x.stat) := (row_cell cl 6).trans rfl
                 have c7 : w1.cell? ⟨l.b, 7, none⟩ = some (.slice l.r.a7 l.x.sf.length l.r.c7) := (row_cell cl 7).trans rfl
                 have c8 : w1.cell? ⟨l.b, 8, none⟩ = some (.slice l.r.a8 l.x.sb.length l.r.c8) := (row_cell cl 8).trans rfl
                 have c9 : w1.cell? ⟨l.b, 9, none⟩ = some (.int .i64 l.x.asked) := (row_cell cl 9).trans rfl
                 have c10 : w1.cell? ⟨l.b, 10, none⟩ = some (.int .i64 l.x.came) := (row_cell cl 10).trans rfl
                 have q0 : w1.cell? ⟨W.heap.size, 0, none⟩ = some (.string y.meth) := (row_cell hw.1.q 0).trans rfl
                 have q1 : w1.cell? ⟨W.heap.size, 1, none⟩ = some (.string y.sch) := (row_cell hw.1.q 1).trans rfl
                 have q2 : w1.cell? ⟨W.heap.size, 2, none⟩ = some (.string y.host) := (row_cell hw.1.q 2).trans rfl
                 have q3 : w1.cell? ⟨W.heap.size, 3, none⟩ = some (.string y.path) := (row_cell hw.1.q 3).trans rfl
                 have q4 : w1.cell? ⟨W.heap.size, 4, none⟩ = some (.slice ry.a4 y.qf.length ry.c4) := (row_cell hw.1.q 4).trans rfl
                 have q5 : w1.cell? ⟨W.heap.size, 5, none⟩ = some (.slice ry.a5 y.qb.length ry.c5) := (row_cell hw.1.q 5).trans rfl
                 have hcall := HCALL.out w1 hw.2
                 have d2 := hw.1.some_ HBEST.out
                 have d4 : w1.cell? ⟨l.b, 10, none⟩ = some (.int .i64 l.x.came) := (row_cell (hw.1.ch.lk _ l HAT.out) 10).trans rfl
                 have d5 : w1.cell? ⟨b.b, 10, none⟩ = some (.int .i64 b.x.came) := (row_cell (hw.1.ch.lk _ b HIB.out) 10).trans rfl
                 have HW := Lib.hid hw
                 have HCL := Lib.hid hcall
                 clear hw hcall cl
                 gi_wp2_with (refine ⟨trivial, ?_⟩; gi_at_call 27; refine (CallsIn.inRound ll (callsIn_wide.2 HCL.out)).mono ?_; rintro e w2 ⟨rfl, hb2⟩)
                 first
                   | exact HW.out
                   | exact HW.out.below hb2
                   | exact ⟨rfl, HW.out⟩
                   | exact ⟨rfl, HW.out.below hb2⟩)
          case grest =>
            intro w1 hw
            have HB1 := Lib.hid hw.2
            skip
            clear hw
            gi_wp2
            all_goals exact get_no HIV.out HB1.out (pick_ge (l := l) HQ.out HBEST.out hlt') _

  case done =>
    intro D V hD hi hdef
    have HD := Lib.hid hD
    clear hD
    cases hbest : bestOf (fun l => mB k l.x y) L with
    | none =>
      have d2 := hi.none_ hbest
      have z0 : V.cell? ⟨W.heap.size + 1, 0, none⟩ = some (.string ⟨#[]⟩) := (row_cell hi.z 0).trans rfl
      have g0 := row_free hi.z 0
      have z1 : V.cell? ⟨W.heap.size + 1, 1, none⟩ = some (.string ⟨#[]⟩) := (row_cell hi.z 1).trans rfl
      have g1 := row_free hi.z 1
      have z2 : V.cell? ⟨W.heap.size + 1, 2, none⟩ = some (.string ⟨#[]⟩) := (row_cell hi.z 2).trans rfl
      have g2 := row_free hi.z 2
      have z3 : V.cell? ⟨W.heap.size + 1, 3, none⟩ = some (.string ⟨#[]⟩) := (row_cell hi.z 3).trans rfl
      have g3 := row_free hi.z 3
      have z4 : V.cell? ⟨W.heap.size + 1, 4, none⟩ = some (.slice none 0 0) := (row_cell hi.z 4).trans rfl
      have g4 := row_free hi.z 4
      have z5 : V.cell? ⟨W.heap.size + 1, 5, none⟩ = some (.slice none 0 0) := (row_cell hi.z 5).trans rfl
      have g5 := row_free hi.z 5
      have z6 : V.cell? ⟨W.heap.size + 1, 6, none⟩ = some (.int .i64 0) := (row_cell hi.z 6).trans rfl
      have g6 := row_free hi.z 6
      have z7 : V.cell? ⟨W.heap.size + 1, 7, none⟩ = some (.slice none 0 0) := (row_cell hi.z 7).trans rfl
      have g7 := row_free hi.z 7
      have z8 : V.cell? ⟨W.heap.size + 1, 8, none⟩ = some (.slice none 0 0) := (row_cell hi.z 8).trans rfl
      have g8 := row_free hi.z 8
      have z9 : V.cell? ⟨W.heap.size + 1, 9, none⟩ = some (.int .i64 0) := (row_cell hi.z 9).trans rfl
      have g9 := row_free hi.z 9
      have z10 : V.cell? ⟨W.heap.size + 1, 10, none⟩ = some (.int .i64 0) := (row_cell hi.z 10).trans rfl
      have g10 := row_free hi.z 10
      have HIV := Lib.hid hi
      have HDEF := Lib.hid hdef
      have HBEST := Lib.hid hbest
      clear hi hdef hbest
      gi_wp2
      have hne : W.heap.size + 1 ≠ D := by have h1 := HD.out; have h2 := HZ4.out; omega
      have hdef2 := (zWorld_other (V := V) hne).trans HDEF.out
      have hrow : ((zWorld V (W.heap.size + 1)).putObj D (.deferred none)).heap[W.heap.size + 1]? = some (.cells (stC zSt zFr) 39 (0, 0)) := (World.putObj_heap_other hne).trans (zWorld_row HIV.out.z)
      have hbel : Below W.heap.size W ((zWorld V (W.heap.size + 1)).putObj D (.deferred none)) := (zWorld_below HIV.out.hold (Nat.le_succ _)).grown (grownBy_putObj' _ _ _) (by rw [zWorld_size]; exact HIV.out.hold.size) (fun k e => by cases e; have h1 := HD.out; have h2 := HZ4.out; omega)
      refine ⟨by simp, .inl ⟨_, _, rfl, run_takeDeferred hdef2, ?_⟩⟩
      exact ⟨_, results_list (rs := [.cell 4 39, .tmp 5]) rfl (by simp) (.cell (W.heap.size + 1) _ _ _ _ rfl hrow Tryd.underlying39 rfl (by kernel_rfl) (.tmp .nil)), getPost_none HBEST.out rfl (HI.out.below hbel) hbel⟩
    | some b =>
      obtain ⟨ib, hib⟩ := List.getElem?_of_mem (bestOf_mem hbest).1
      have d2 := hi.some_ hbest
      have hbm := (bestOf_mem hbest).1
      have HBM := Lib.hid hbm
      have HIB := Lib.hid hib
      have HIV := Lib.hid hi
      have HDEF := Lib.hid hdef
      have HBEST := Lib.hid hbest
      have hbb : ∀ k ∈ own1 s L, k < W.heap.size := HI.out.ltW
      have HBB := Lib.hid hbb
      clear hi hdef hbest hib hbm hbb
      gi_wp2_with (refine ⟨trivial, ?_⟩; gi_at_call 28; refine (callsIn_wide.2 (out_at HIV.out.ch HIB.out)).mono ?_; rintro e w1 ⟨⟨v1, rfl⟩, ho, hu⟩; have hb1 := box_upd HIV.out.b2 hu HBB.out (Nat.le_add_right _ _); rw [HBEST.out] at hb1; have HBX1 := Lib.hid hb1; have d3 : w1.cell? ⟨W.heap.size + 1 + 1, 0, none⟩ = some (.pointer (some ⟨b.b, 0, none⟩)) := hb1.cell; have HO := Lib.hid ho; have HU := Lib.hid hu; clear ho hu hb1)
      have hc1 := OutAt.chain HIV.out.ch HIB.out HO.out
      have hn1 : ∀ (j : Nat) (m : Lk), (L.eraseIdx ib)[j]? = some m → b.b ≠ m.b := erase_ne HI.out.ch HIB.out
      have HC1 := Lib.hid hc1
      have HN1 := Lib.hid hn1
      clear hc1 hn1
      gi_wp2_with (refine ⟨trivial, ?_⟩; gi_at_call 29; refine (callsIn_wide.2 (in_chain HC1.out HO.out.me (HI.out.ch.ns _ b HIB.out) HN1.out)).mono ?_; rintro e w2 ⟨⟨v2, rfl⟩, hc2, hu2⟩; have hb2 := box_upd HBX1.out hu2 (front_lt HBM.out HBB.out) (Nat.le_add_right _ _); have d4 : w2.cell? ⟨W.heap.size + 1 + 1, 0, none⟩ = some (.pointer (some ⟨b.b, 0, none⟩)) := hb2.cell; have cl := hc2.lk 0 b rfl; have c0 : w2.cell? ⟨b.b, 0, none⟩ = some (.string b.x.meth) := (row_cell cl 0).trans rfl; have c1 : w2.cell? ⟨b.b, 1, none⟩ = some (.string b.x.sch) := (row_cell cl 1).trans rfl; have c2 : w2.cell? ⟨b.b, 2, none⟩ = some (.string b.x.host) := (row_cell cl 2).trans rfl; have c3 : w2.cell? ⟨b.b, 3, none⟩ = some (.string b.x.path) := (row_cell cl 3).trans rfl; have c4 : w2.cell? ⟨b.b, 4, none⟩ = some (.slice b.r.a4 b.x.qf.length b.r.c4) := (row_cell cl 4).trans rfl; have c5 : w2.cell? ⟨b.b, 5, none⟩ = some (.slice b.r.a5 b.x.qb.length b.r.c5) := (row_cell cl 5).trans rfl; have c6 : w2.cell? ⟨b.b, 6, none⟩ = some (.int .i64 b.x.stat) := (row_cell cl 6).trans rfl; have c7 : w2.cell? ⟨b.b, 7, none⟩ = some (.slice b.r.a7 b.x.sf.length b.r.c7) := (row_cell cl 7).trans rfl; have c8 : w2.cell? ⟨b.b, 8, none⟩ = some (.slice b.r.a8 b.x.sb.length b.r.c8) := (row_cell cl 8).trans rfl; have c9 : w2.cell? ⟨b.b, 9, none⟩ = some (.int .i64 b.x.asked) := (row_cell cl 9).trans rfl; have c10 : w2.cell? ⟨b.b, 10, none⟩ = some (.int .i64 b.x.came) := (row_cell cl 10).trans rfl; have HC2 := Lib.hid hc2; have HU2 := Lib.hid hu2; clear hc2 hu2 hb2 cl)
      have hh2 : Hold (own1 s L) W w2 := ((Hold.of_below HIV.out.hold).trans (Hold.of_upd HU.out)).trans ((Hold.of_upd HU2.out).sub (front_sub HBM.out))
      have hz2 : Row39 w2 (W.heap.size + 1) zSt zFr := (HU2.out.block _ (fun hm => by have := front_lt HBM.out HBB.out _ hm; omega)).trans ((HU.out.block _ (fun hm => by have := HBB.out _ hm; omega)).trans HIV.out.z)
      have hd2 : w2.heap[D]? = some (.deferred (some [])) := by
        have h1 := HD.out
        have h2 := HZ4.out
        exact (HU2.out.block _ (fun hm => by have := front_lt HBM.out HBB.out _ hm; omega)).trans ((HU.out.block _ (fun hm => by have := HBB.out _ hm; omega)).trans HDEF.out)
      have HH2 := Lib.hid hh2
      have HZ2 := Lib.hid hz2
      have HD2 := Lib.hid hd2
      clear hh2 hz2 hd2
      have hrd := ((HI.out.fix b HBM.out).hold (HH2.out.sub HI.out.own)).rd
      have HRD := Lib.hid hrd
      clear hrd
      gi_wp2_with (refine ⟨trivial, ?_⟩; gi_at_call 30; refine (callsIn_wide.2 (own_calls b.x b.r _ HRD.out (HL.out b HBM.out).small)).mono ?_; rintro e w3 ⟨r3, rfl, hro, hb3⟩; have hz3 : Row39 w3 (W.heap.size + 1) zSt zFr := (hb3.block _ (Array.getElem?_eq_some_iff.1 HZ2.out).1).trans HZ2.out; have hst := st_store Tryd.prog w3 (W.heap.size + 1) _ rfl _ b.x r3 hz3; have HZ3 := Lib.hid hz3; have HRO := Lib.hid hro; have HB3 := Lib.hid hb3; clear hz3 hro hb3)
      have hne : D ≠ W.heap.size + 1 := by have h1 := HD.out; have h2 := HZ4.out; omega
      have hd3 : w3.heap[D]? = some (.deferred (some [])) := (HB3.out.block _ (Array.getElem?_eq_some_iff.1 HD2.out).1).trans HD2.out
      have hdef2 := (setRow_other w3 (W.heap.size + 1) D (stC b.x r3) hne).trans hd3
      have hrow : ((w3.setRow (W.heap.size + 1) (stC b.x r3)).putObj D (.deferred none)).heap[W.heap.size + 1]? = some (.cells (stC b.x r3) 39 (0, 0)) := (World.putObj_heap_other (fun e => hne e.symm)).trans (setRow_heap _ _ _ _ _ _ HZ3.out)
      have hD4 : W.heap.size + 4 ≤ D := by have h1 := HD.out; have h2 := HZ4.out; omega
      have hD2 : D < w2.heap.size := (Array.getElem?_eq_some_iff.1 HD2.out).1
      have hh : Hold (own1 s L) W ((w3.setRow (W.heap.size + 1) (stC b.x r3)).putObj D (.deferred none)) := ((HH2.out.trans (Hold.of_below HB3.out)).setRow (by omega) _).putObj (by omega) _
      -- behind w3: two blocks of this call's own
      have hself : Hold [W.heap.size + 1, D] w3 ((w3.setRow (W.heap.size + 1) (stC b.x r3)).putObj D (.deferred none)) :=
        ⟨rfl, rfl, rfl, by simp, fun k hk hS => by
          simp only [List.mem_cons, List.mem_nil_iff, or_false, not_or] at hS
          exact (World.putObj_heap_other hS.2).trans (setRow_other _ _ _ _ hS.1)⟩
      have hro := (HRO.out.hold (S := [W.heap.size + 1, D]) (by
        intro k hk
        simp only [List.mem_cons, List.mem_nil_iff, or_false] at hk
        rcases hk with rfl | rfl <;> omega) hself).lower (Nat.le_trans (show W.heap.size ≤ W.heap.size + 4 by omega) (by omega))
      have ht : total (b :: L.eraseIdx ib) = total L := by
        rw [total_cons, total_eraseIdx HIB.out]
        omega
      have hpos := total_nonneg HI.out.pos
      have hm := HI.out.most
      have hm1 := HI.out.cap1
      have hz0 : 0 ≤ total (L.eraseIdx ib) := total_nonneg (fun l hl => HI.out.pos l (erase_mem hl))
      have hw1 : wrap64 (total L - b.sz) = total (L.eraseIdx ib) := by
        rw [total_eraseIdx HIB.out] at hz0 ⊢
        have := HI.out.pos b HBM.out
        unfold wrap64
        omega
      have hch : Chain ((w3.setRow (W.heap.size + 1) (stC b.x r3)).putObj D (.deferred none)) s cap (total (b :: L.eraseIdx ib)) (b :: L.eraseIdx ib) := by
        have h2 := HC2.out
        rw [hw1, show wrap64 (total (L.eraseIdx ib) + b.sz) = total (b :: L.eraseIdx ib) by
          rw [total_cons, Int.add_comm, ← total_cons, ht]
          unfold wrap64
          omega] at h2
        have hmem : ∀ m ∈ b :: L.eraseIdx ib, m.b < W.heap.size := fun m hm => by
          rcases List.mem_cons.1 hm with rfl | hm
          · exact HI.out.ltW _ (.tail _ (List.mem_map.2 ⟨m, HBM.out, rfl⟩))
          · exact HI.out.ltW _ (.tail _ (List.mem_map.2 ⟨m, erase_mem hm, rfl⟩))
        have hs := HI.out.ltW s (.head _)
        have h3 := h2.hold (S := []) (Hold.of_below HB3.out) (by simp) (by simp)
        refine h3.hold hself ?_ (fun i l hi => ?_)
        · simp only [List.mem_cons, List.mem_nil_iff, or_false, not_or]
          omega
        · have := hmem l (List.mem_of_getElem? hi)
          simp only [List.mem_cons, List.mem_nil_iff, or_false, not_or]
          omega
      have hinv := HI.out.perm (M := b :: L.eraseIdx ib) (fun l hl => by
        rcases List.mem_cons.1 hl with rfl | hl
        · exact HBM.out
        · exact erase_mem hl) ht hch hh
      refine ⟨by simp, .inl ⟨_, _, rfl, run_takeDeferred hdef2, ?_⟩⟩
      exact ⟨_, results_list (rs := [.cell 4 39, .tmp 5]) rfl (by simp) (.cell (W.heap.size + 1) _ _ _ _ rfl hrow Tryd.underlying39 rfl (by kernel_rfl) (.tmp .nil)), getPost_some HBEST.out r3 ib HIB.out rfl hro hinv hh⟩
end Go.Proofs.YtbedkjmdckgbgaaDoor.P
/- The three tests that are handed to drop: Put's, Purge's, Prefix's. -/
namespace Go.Proofs.YtbedkjmdckgbgaaDoor.P
open Go.RowKit Go.Shelf Go.Proofs.YtbedkjmdckgbgaaDoorW.PrintWords
set_option maxHeartbeats 2000000 in
set_option maxRecDepth 100000 in
theorem put1_calls (k : Nat) (x y : St) (r s : Fr) (B : Nat) (w : World) (hB : Row39 w B y s) (hx : Fine k x) (hy : Fine k y) (hr : Rd w x r) (hs : Rd w y s) :
    Calls Tryd.prog 40 #[.agg (stC x r), .pointer (some ⟨B, 0, none⟩)] w fun e w' => e = .returned (.bool (mB k x y)) ∧ Below w.heap.size w w' := by
  have hBs : B < w.heap.size := (Array.getElem?_eq_some_iff.1 hB).1
  have hw1 : Row39 (w.alloc (.cells (stC x r) 39)) w.heap.size x r := World.alloc_heap_new w _
  have hw2 : Row39 (w.alloc (.cells (stC x r) 39)) B y s := (Below.heap_alloc _ _ _ hBs).trans hB
  have hb0 : Below w.heap.size w (w.alloc (.cells (stC x r) 39)) := below_alloc (Below.refl _ _) _
  have c0 : (w.alloc (.cells (stC x r) 39)).cell? ⟨B, 0, none⟩ = some (.string y.meth) := (row_cell hw2 0).trans rfl
  have c1 : (w.alloc (.cells (stC x r) 39)).cell? ⟨B, 1, none⟩ = some (.string y.sch) := (row_cell hw2 1).trans rfl
  have c2 : (w.alloc (.cells (stC x r) 39)).cell? ⟨B, 2, none⟩ = some (.string y.host) := (row_cell hw2 2).trans rfl
  have c3 : (w.alloc (.cells (stC x r) 39)).cell? ⟨B, 3, none⟩ = some (.string y.path) := (row_cell hw2 3).trans rfl
  have c4 : (w.alloc (.cells (stC x r) 39)).cell? ⟨B, 4, none⟩ = some (.slice s.a4 y.qf.length s.c4) := (row_cell hw2 4).trans rfl
  have c5 : (w.alloc (.cells (stC x r) 39)).cell? ⟨B, 5, none⟩ = some (.slice s.a5 y.qb.length s.c5) := (row_cell hw2 5).trans rfl
  have hm := mB_calls k x y r s (w.alloc (.cells (stC x r) 39)) hx hy (hr.below hb0) (hs.below hb0)
  have HW1 := Lib.hid hw1
  have HB0 := Lib.hid hb0
  have HM := Lib.hid hm
  clear hw1 hw2 hb0 hm hB hr hs hx hy
  go_enter Tryd.func40, Tryd.ntmps40
  go_wp2_with (first | (refine wpList_load_row rfl _ _ rfl w.heap.size rfl _ _ (0, 0) _ HW1.out Tryd.underlying39 rfl (by kernel_rfl) ?_) | (go_at_call 27; refine HM.out.mono ?_; rintro e w1 ⟨rfl, hb1⟩))
  go_ret
  exact ⟨rfl, below_step HB0.out hb1⟩
def purgeB (sch host path : ByteArray) (x : St) : Bool := (x.sch.toList == sch.toList) && (x.host.toList == host.toList) && (x.path.toList == path.toList)
theorem purge1_calls (x : St) (r : Fr) (B : Nat) (sch host path : ByteArray) (w : World) (h0 : w.cell? ⟨B, 0, none⟩ = some (.string sch)) (h1 : w.cell? ⟨B + 1, 0, none⟩ = some (.string host)) (h2 : w.cell? ⟨B + 1 + 1, 0, none⟩ = some (.string path)) :
    Calls Tryd.prog 41 #[.agg (stC x r), .pointer (some ⟨B, 0, none⟩), .pointer (some ⟨B + 1, 0, none⟩), .pointer (some ⟨B + 1 + 1, 0, none⟩)] w fun e w' => e = .returned (.bool (purgeB sch host path x)) ∧ Below w.heap.size w w' := by
  have l0 := World.block_lt_of_cell? _ _ h0
  have l1 := World.block_lt_of_cell? _ _ h1
  have l2 := World.block_lt_of_cell? _ _ h2
  have hw1 : Row39 (w.alloc (.cells (stC x r) 39)) w.heap.size x r := World.alloc_heap_new w _
  have c1 : (w.alloc (.cells (stC x r) 39)).cell? ⟨w.heap.size, 1, none⟩ = some (.string x.sch) := (row_cell hw1 1).trans rfl
  have c2 : (w.alloc (.cells (stC x r) 39)).cell? ⟨w.heap.size, 2, none⟩ = some (.string x.host) := (row_cell hw1 2).trans rfl
  have c3 : (w.alloc (.cells (stC x r) 39)).cell? ⟨w.heap.size, 3, none⟩ = some (.string x.path) := (row_cell hw1 3).trans rfl
  have hb0 : Below w.heap.size w (w.alloc (.cells (stC x r) 39)) := below_alloc (Below.refl _ _) _
  have d0 := (hb0.cell (p := ⟨B, 0, none⟩) l0).trans h0
  have d1 := (hb0.cell (p := ⟨B + 1, 0, none⟩) l1).trans h1
  have d2 := (hb0.cell (p := ⟨B + 1 + 1, 0, none⟩) l2).trans h2
  have HB0 := Lib.hid hb0
  clear hw1 hb0 h0 h1 h2 l0 l1 l2
  by_cases e1 : x.sch.toList = sch.toList
  case neg =>
    have g1 : (x.sch.toList == sch.toList) = false := beq_eq_false_iff_ne.2 e1
    clear e1
    go_enter Tryd.func41, Tryd.ntmps41
    go_wp2
    go_ret
    exact ⟨by simp [purgeB, g1], HB0.out⟩
  have g1 : (x.sch.toList == sch.toList) = true := beq_iff_eq.2 e1
  clear e1
  by_cases e2 : x.host.toList = host.toList
  case neg =>
    have g2 : (x.host.toList == host.toList) = false := beq_eq_false_iff_ne.2 e2
    clear e2
    go_enter Tryd.func41, Tryd.ntmps41
    go_wp2
    go_ret
    exact ⟨by simp [purgeB, g2], HB0.out⟩
  have g2 : (x.host.toList == host.toList) = true := beq_iff_eq.2 e2
  clear e2
  have hp : purgeB sch host path x = (x.path.toList == path.toList) := by simp [purgeB, g1, g2]
  have HP := Lib.hid hp
  clear hp
  go_enter Tryd.func41, Tryd.ntmps41
  go_wp2
  go_ret
  exact ⟨by rw [HP.out]; rfl, HB0.out⟩
def hasPre (s p : ByteArray) : Bool := decide (p.size ≤ s.size) && ((s.extract 0 p.size).toList == p.toList)
theorem liteHasPrefix_calls (s p : ByteArray) (w : World) : Calls Tryd.prog 59 #[.string s, .string p] w fun e w' => e = .returned (.bool (hasPre s p)) ∧ w' = w := by
  by_cases h : p.size ≤ s.size
  · have hp : hasPre s p = ((s.extract 0 p.size).toList == p.toList) := by simp [hasPre, h]
    have h0 : (0 : Int) ≤ (p.size : Int) := by omega
    have h1 : (p.size : Int) ≤ (s.size : Int) := by omega
    have HP := Lib.hid hp
    clear hp
    go_enter Tryd.func59, Tryd.ntmps59
    go_wp2
    go_ret
    exact ⟨by rw [HP.out]; rfl, rfl⟩
  · have hp : hasPre s p = false := by simp [hasPre, h]
    have h1 : ¬ (p.size : Int) ≤ (s.size : Int) := by omega
    have HP := Lib.hid hp
    clear hp
    go_enter Tryd.func59, Tryd.ntmps59
    go_wp2
    go_ret
    exact ⟨by rw [HP.out]; rfl, rfl⟩
theorem hasPrefix_calls (s p : ByteArray) (w : World) : Calls Tryd.prog 43 #[.string s, .string p] w fun e w' => e = .returned (.bool (hasPre s p)) ∧ w' = w := by
  go_enter Tryd.func43, Tryd.ntmps43
  go_wp2_with (go_at_call 59; refine (liteHasPrefix_calls _ _ _).mono ?_; rintro e w' ⟨rfl, rfl⟩)
  go_ret
  exact ⟨rfl, rfl⟩
def prefixB (sch host path : ByteArray) (x : St) : Bool := (x.sch.toList == sch.toList) && (x.host.toList == host.toList) && hasPre x.path path
theorem prefix1_calls (x : St) (r : Fr) (B : Nat) (sch host path : ByteArray) (w : World) (h0 : w.cell? ⟨B, 0, none⟩ = some (.string sch)) (h1 : w.cell? ⟨B + 1, 0, none⟩ = some (.string host)) (h2 : w.cell? ⟨B + 1 + 1, 0, none⟩ = some (.string path)) :
    Calls Tryd.prog 42 #[.agg (stC x r), .pointer (some ⟨B, 0, none⟩), .pointer (some ⟨B + 1, 0, none⟩), .pointer (some ⟨B + 1 + 1, 0, none⟩)] w fun e w' => e = .returned (.bool (prefixB sch host path x)) ∧ Below w.heap.size w w' := by
  have l0 := World.block_lt_of_cell? _ _ h0
  have l1 := World.block_lt_of_cell? _ _ h1
  have l2 := World.block_lt_of_cell? _ _ h2
  have hw1 : Row39 (w.alloc (.cells (stC x r) 39)) w.heap.size x r := World.alloc_heap_new w _
  have c1 : (w.alloc (.cells (stC x r) 39)).cell? ⟨w.heap.size, 1, none⟩ = some (.string x.sch) := (row_cell hw1 1).trans rfl
  have c2 : (w.alloc (.cells (stC x r) 39)).cell? ⟨w.heap.size, 2, none⟩ = some (.string x.host) := (row_cell hw1 2).trans rfl
  have c3 : (w.alloc (.cells (stC x r) 39)).cell? ⟨w.heap.size, 3, none⟩ = some (.string x.path) := (row_cell hw1 3).trans rfl
  have hb0 : Below w.heap.size w (w.alloc (.cells (stC x r) 39)) := below_alloc (Below.refl _ _) _
  have d0 := (hb0.cell (p := ⟨B, 0, none⟩) l0).trans h0
  have d1 := (hb0.cell (p := ⟨B + 1, 0, none⟩) l1).trans h1
  have d2 := (hb0.cell (p := ⟨B + 1 + 1, 0, none⟩) l2).trans h2
  have HB0 := Lib.hid hb0
  clear hw1 hb0 h0 h1 h2 l0 l1 l2
  by_cases e1 : x.sch.toList = sch.toList
  case neg =>
    have g1 : (x.sch.toList == sch.toList) = false := beq_eq_false_iff_ne.2 e1
    clear e1
    go_enter Tryd.func42, Tryd.ntmps42
    go_wp2
    go_ret
    exact ⟨by simp [prefixB, g1], HB0.out⟩
  have g1 : (x.sch.toList == sch.toList) = true := beq_iff_eq.2 e1
  clear e1
  by_cases e2 : x.host.toList = host.toList
  case neg =>
    have g2 : (x.host.toList == host.toList) = false := beq_eq_false_iff_ne.2 e2
    clear e2
    go_enter Tryd.func42, Tryd.ntmps42
    go_wp2
    go_ret
    exact ⟨by simp [prefixB, g2], HB0.out⟩
  have g2 : (x.host.toList == host.toList) = true := beq_iff_eq.2 e2
  clear e2
  have hp : prefixB sch host path x = hasPre x.path path := by simp [prefixB, g1, g2]
  have HP := Lib.hid hp
  clear hp
  go_enter Tryd.func42, Tryd.ntmps42
  go_wp2_with (go_at_call 43; refine (hasPrefix_calls _ _ _).mono ?_; rintro e w' ⟨rfl, rfl⟩)
  go_ret
  exact ⟨by rw [HP.out]; rfl, HB0.out⟩
end Go.Proofs.YtbedkjmdckgbgaaDoor.P
/- (*Store).Purge and Prefix; and of a store that nobody made. -/
namespace Go.Proofs.YtbedkjmdckgbgaaDoor.P
open Go.RowKit Go.Shelf Go.Proofs.YtbedkjmdckgbgaaDoorW.PrintWords
def w3of (W : World) (a b c : ByteArray) : World := ((W.alloc (.cells #[.string a] 9)).alloc (.cells #[.string b] 9)).alloc (.cells #[.string c] 9)
theorem w3_below (W : World) (a b c : ByteArray) : Below W.heap.size W (w3of W a b c) := below_alloc (below_alloc (below_alloc (Below.refl _ _) _) _) _
theorem w3_size (W : World) (a b c : ByteArray) : (w3of W a b c).heap.size = W.heap.size + 3 := by simp [w3of]
theorem w3_0 (W : World) (a b c : ByteArray) : boxC (w3of W a b c) W.heap.size (.string a) 9 := ((boxC.new W _ _).alloc _).alloc _
theorem w3_1 (W : World) (a b c : ByteArray) : boxC (w3of W a b c) (W.heap.size + 1) (.string b) 9 := by
  have h := boxC.new (W.alloc (.cells #[.string a] 9)) (.string b) 9
  rw [World.size_alloc] at h
  exact h.alloc _
theorem w3_2 (W : World) (a b c : ByteArray) : boxC (w3of W a b c) (W.heap.size + 2) (.string c) 9 := by
  have h := boxC.new ((W.alloc (.cells #[.string a] 9)).alloc (.cells #[.string b] 9)) (.string c) 9
  rw [World.size_alloc, World.size_alloc] at h
  exact h
theorem boxC.hold {S : List Nat} {A B : World} {b : Nat} {v : Value} {t : Nat} (h : boxC A b v t) (hh : Hold S A B) (hb : b ∉ S) : boxC B b v t := (hh.block b (Array.getElem?_eq_some_iff.1 h).1 hb).trans h
set_option maxHeartbeats 2000000 in
set_option maxRecDepth 100000 in
theorem purge_calls (S : List Nat) (W : World) (s : Nat) (cap : Int) (L : List Lk) (hI : Inv S W s cap L) (sch host path : ByteArray) :
    Calls Tryd.prog 21 #[.pointer (some ⟨s, 0, none⟩), .string sch, .string host, .string path] W fun e w' => e = .returned (.int .i64 (goneOf (fun l => purgeB sch host path l.x) L)) ∧ Inv S w' s cap (L.filter fun l => !(purgeB sch host path l.x)) ∧ Hold (own1 s L) W w' := by
  have hb := w3_below W sch host path
  have hI3 := hI.below hb
  have hlt : ∀ k ∈ own1 s L, k < W.heap.size := hI.ltW
  have hd := drop_calls S (w3of W sch host path) s cap L hI3 41 (enters_of Tryd.func41 (by kernel_rfl) rfl) #[.pointer (some ⟨W.heap.size, 0, none⟩), .pointer (some ⟨W.heap.size + 1, 0, none⟩), .pointer (some ⟨W.heap.size + 1 + 1, 0, none⟩)] (fun l => purgeB sch host path l.x) (fun V l _ hh => by
    have n : ∀ j, W.heap.size + j ∉ own1 s L := fun j hm => by have := hlt _ hm; omega
    have e0 := ((w3_0 W sch host path).hold hh (n 0)).cell
    have e1 := ((w3_1 W sch host path).hold hh (n 1)).cell
    have e2 := ((w3_2 W sch host path).hold hh (n 2)).cell
    exact purge1_calls l.x l.r W.heap.size sch host path V e0 e1 e2)
  have hk := ok_calls (w3of W sch host path) s cap (total L) _ _ hI3.ch.st
  have HD := Lib.hid hd
  have HK := Lib.hid hk
  have HB := Lib.hid hb
  clear hb hI3 hlt hd hk hI
  go_enter Tryd.func21, Tryd.ntmps21
  go_wp2_with (first | (go_at_call 25; refine HK.out.mono ?_; rintro e w' ⟨rfl, rfl⟩) | (go_at_call 39; refine HD.out.mono ?_; rintro e w' ⟨rfl, hi', hh'⟩; have HI' := Lib.hid hi'; have HH' := Lib.hid hh'; clear hi' hh'))
  go_ret
  exact ⟨rfl, HI'.out, (Hold.of_below HB.out).trans HH'.out⟩
set_option maxHeartbeats 2000000 in
set_option maxRecDepth 100000 in
theorem prefix_calls (S : List Nat) (W : World) (s : Nat) (cap : Int) (L : List Lk) (hI : Inv S W s cap L) (sch host path : ByteArray) :
    Calls Tryd.prog 22 #[.pointer (some ⟨s, 0, none⟩), .string sch, .string host, .string path] W fun e w' => e = .returned (.int .i64 (goneOf (fun l => prefixB sch host path l.x) L)) ∧ Inv S w' s cap (L.filter fun l => !(prefixB sch host path l.x)) ∧ Hold (own1 s L) W w' := by
  have hb := w3_below W sch host path
  have hI3 := hI.below hb
  have hlt : ∀ k ∈ own1 s L, k < W.heap.size := hI.ltW
  have hd := drop_calls S (w3of W sch host path) s cap L hI3 42 (enters_of Tryd.func42 (by kernel_rfl) rfl) #[.pointer (some ⟨W.heap.size, 0, none⟩), .pointer (some ⟨W.heap.size + 1, 0, none⟩), .pointer (some ⟨W.heap.size + 1 + 1, 0, none⟩)] (fun l => prefixB sch host path l.x) (fun V l _ hh => by
    have n : ∀ j, W.heap.size + j ∉ own1 s L := fun j hm => by have := hlt _ hm; omega
    have e0 := ((w3_0 W sch host path).hold hh (n 0)).cell
    have e1 := ((w3_1 W sch host path).hold hh (n 1)).cell
    have e2 := ((w3_2 W sch host path).hold hh (n 2)).cell
    exact prefix1_calls l.x l.r W.heap.size sch host path V e0 e1 e2)
  have hk := ok_calls (w3of W sch host path) s cap (total L) _ _ hI3.ch.st
  have HD := Lib.hid hd
  have HK := Lib.hid hk
  have HB := Lib.hid hb
  clear hb hI3 hlt hd hk hI
  go_enter Tryd.func22, Tryd.ntmps22
  go_wp2_with (first | (go_at_call 25; refine HK.out.mono ?_; rintro e w' ⟨rfl, rfl⟩) | (go_at_call 39; refine HD.out.mono ?_; rintro e w' ⟨rfl, hi', hh'⟩; have HI' := Lib.hid hi'; have HH' := Lib.hid hh'; clear hi' hh'))
  go_ret
  exact ⟨rfl, HI'.out, (Hold.of_below HB.out).trans HH'.out⟩
end Go.Proofs.YtbedkjmdckgbgaaDoor.P
/- A store that nobody made: what each call answers. -/
namespace Go.Proofs.YtbedkjmdckgbgaaDoor.P
open Go.RowKit Go.Shelf Go.Proofs.YtbedkjmdckgbgaaDoorW.PrintWords
def Dead (p : Option Addr) (W : World) : Prop := ∀ V, Below W.heap.size W V → Calls Tryd.prog 25 #[.pointer p] V fun e w' => e = .returned (.bool false) ∧ w' = V
theorem dead_nil (W : World) : Dead none W := fun V _ => ok_nil V
theorem dead_unmade (W : World) (s : Nat) (h : W.cell? ⟨s, 0, none⟩ = some (.bool false)) : Dead (some ⟨s, 0, none⟩) W := fun V hb => ok_unmade V s ((hb.cell (p := ⟨s, 0, none⟩) (World.block_lt_of_cell? _ _ h)).trans h)
theorem Dead.below {p : Option Addr} {W V : World} (h : Dead p W) (hb : Below W.heap.size W V) : Dead p V := fun U hu => h U (hb.trans (hu.mono hb.size))
set_option maxHeartbeats 2000000 in
set_option maxRecDepth 100000 in
theorem get_dead (p : Option Addr) (W : World) (h : Dead p W) (y : St) (ry : Fr) : Calls Tryd.prog 8 #[.pointer p, .agg (reqC y ry)] W fun e w' => e = .returned (.tuple #[.agg (stC zSt zFr), .bool false]) ∧ Below W.heap.size W w' := by
  have hk := h _ (below_alloc (below_alloc (Below.refl W.heap.size W) (.cells (reqC y ry) 32)) (.cells (stC zSt zFr) 39))
  dsimp only [stC, zSt, zFr, List.length_nil] at hk
  have HK := Lib.hid hk
  clear hk h
  go_enter Tryd.func8, Tryd.ntmps8
  go_wp2_with (go_at_call 25; refine HK.out.mono ?_; rintro e w' ⟨rfl, rfl⟩)
  exact bodyPost_ret (v := .tuple #[.agg (stC zSt zFr), .bool false]) (by simp [results, Tryd.results8, go_sem, stC, zSt, zFr]) rfl ⟨rfl, below_alloc (below_alloc (Below.refl _ _) _) _⟩
set_option maxHeartbeats 2000000 in
set_option maxRecDepth 100000 in
theorem put_dead (p : Option Addr) (W : World) (h : Dead p W) (x : St) (r : Fr) : Calls Tryd.prog 19 #[.pointer p, .agg (stC x r)] W fun e w' => e = .returned (.int .i64 2) ∧ Below W.heap.size W w' := by
  have hk := h _ (below_alloc (Below.refl W.heap.size W) (.cells (stC x r) 39))
  have HK := Lib.hid hk
  clear hk h
  go_enter Tryd.func19, Tryd.ntmps19
  go_wp2_with (go_at_call 25; refine HK.out.mono ?_; rintro e w' ⟨rfl, rfl⟩)
  go_ret
  exact ⟨rfl, below_alloc (Below.refl _ _) _⟩
set_option maxRecDepth 100000 in
theorem purge_dead (p : Option Addr) (W : World) (h : Dead p W) (a b c : ByteArray) : Calls Tryd.prog 21 #[.pointer p, .string a, .string b, .string c] W fun e w' => e = .returned (.int .i64 0) ∧ Below W.heap.size W w' := by
  have hk := h _ (w3_below W a b c)
  have HK := Lib.hid hk
  clear hk h
  go_enter Tryd.func21, Tryd.ntmps21
  go_wp2_with (go_at_call 25; refine HK.out.mono ?_; rintro e w' ⟨rfl, rfl⟩)
  go_ret
  exact ⟨rfl, w3_below W a b c⟩
set_option maxRecDepth 100000 in
theorem prefix_dead (p : Option Addr) (W : World) (h : Dead p W) (a b c : ByteArray) : Calls Tryd.prog 22 #[.pointer p, .string a, .string b, .string c] W fun e w' => e = .returned (.int .i64 0) ∧ Below W.heap.size W w' := by
  have hk := h _ (w3_below W a b c)
  have HK := Lib.hid hk
  clear hk h
  go_enter Tryd.func22, Tryd.ntmps22
  go_wp2_with (go_at_call 25; refine HK.out.mono ?_; rintro e w' ⟨rfl, rfl⟩)
  go_ret
  exact ⟨rfl, w3_below W a b c⟩
theorem used_dead (p : Option Addr) (W : World) (h : Dead p W) : Calls Tryd.prog 18 #[.pointer p] W fun e w' => e = .returned (.int .i64 0) ∧ Below W.heap.size W w' := by
  have hk := h _ (Below.refl _ _)
  have HK := Lib.hid hk
  clear hk h
  go_enter Tryd.func18, Tryd.ntmps18
  go_wp2_with (go_at_call 25; refine HK.out.mono ?_; rintro e w' ⟨rfl, hw⟩; rw [hw]; clear hw)
  go_ret
  exact ⟨rfl, Below.refl _ _⟩
theorem list_dead (p : Option Addr) (W : World) (h : Dead p W) : Calls Tryd.prog 14 #[.pointer p] W fun e w' => e = .returned (.slice none 0 0) ∧ Below W.heap.size W w' := by
  have hk := h _ (Below.refl _ _)
  have HK := Lib.hid hk
  clear hk h
  go_enter Tryd.func14, Tryd.ntmps14
  go_wp2_with (go_at_call 25; refine HK.out.mono ?_; rintro e w' ⟨rfl, hw⟩; rw [hw]; clear hw)
  go_ret
  exact ⟨rfl, Below.refl _ _⟩
end Go.Proofs.YtbedkjmdckgbgaaDoor.P
/- (*Store).Put: what matches goes, then the oldest ones till there is room; the new one stands in front. -/
namespace Go.Proofs.YtbedkjmdckgbgaaDoor.P
open Go.RowKit Go.Shelf Go.Proofs.YtbedkjmdckgbgaaDoorW.PrintWords
def rest (k : Nat) (x : St) (L : List Lk) : List Lk := L.filter fun l => !(mB k l.x x)
/-- What a Put answers and leaves. -/
def PutPost (k : Nat) (S : List Nat) (W : World) (s : Nat) (cap : Int) (L : List Lk) (x : St) (e : Ending) (w' : World) : Prop :=
  if rightB x = false then e = .returned (.int .i64 1) ∧ Inv S w' s cap L ∧ Hold (own1 s L) W w'
  else if cap < sizeI k x then e = .returned (.int .i64 6) ∧ Inv S w' s cap (rest k x L) ∧ Hold (own1 s L) W w'
  else ∃ (b : Nat) (r' : Fr) (n : Nat), e = .returned (.int .i64 0) ∧ W.heap.size ≤ b ∧ n ≤ (rest k x L).length ∧ Inv (b :: S) w' s cap (⟨b, x, r', sizeI k x⟩ :: (rest k x L).take n) ∧ Hold (own1 s L) W w' ∧
    total ((rest k x L).take n) ≤ cap - sizeI k x ∧ (n < (rest k x L).length → cap - sizeI k x < total ((rest k x L).take (n + 1)))
/-- What a store's cell says is used. -/
def usedOf (w : World) (s : Nat) : Nat :=
  match w.cell? ⟨s, 2, none⟩ with
  | some (.int _ u) => u.toNat
  | _ => 0
theorem usedOf_at {w : World} {s : Nat} {cap used : Int} {n o : Option Nat} (h : StoreAt w s cap used n o) : usedOf w s = used.toNat := by
  unfold usedOf
  rw [(row_cell h 2).trans rfl]
  rfl
set_option maxHeartbeats 4000000 in
set_option maxRecDepth 100000 in
theorem put_calls (k : Nat) (S : List Nat) (W : World) (s : Nat) (cap : Int) (L : List Lk) (hI : Inv S W s cap L) (hL : ∀ l ∈ L, Fine k l.x) (x : St) (r : Fr) (hx : Fine k x) (hr : Fix (own1 s L) W x r) :
    Calls Tryd.prog 19 #[.pointer (some ⟨s, 0, none⟩), .agg (stC x r)] W (PutPost k S W s cap L x) := by
  have hw1 : Row39 (W.alloc (.cells (stC x r) 39)) W.heap.size x r := World.alloc_heap_new W _
  have hb1 : Below W.heap.size W (W.alloc (.cells (stC x r) 39)) := below_alloc (Below.refl _ _) _
  have hlt : ∀ k ∈ own1 s L, k < W.heap.size := hI.ltW
  have hk := ok_calls (W.alloc (.cells (stC x r) 39)) s cap (total L) _ _ (hI.below hb1).ch.st
  have HK := Lib.hid hk
  have HW1 := Lib.hid hw1
  have HB1 := Lib.hid hb1
  have HI := Lib.hid hI
  have HL := Lib.hid hL
  have HX := Lib.hid hx
  have HR := Lib.hid hr
  have HLT := Lib.hid hlt
  clear hk hw1 hb1 hI hL hx hr hlt
  go_enter Tryd.func19, Tryd.ntmps19
  go_wp2_with (first | (go_at_call 25; refine HK.out.mono ?_; rintro e w' ⟨rfl, rfl⟩) | (refine wpList_load_row rfl _ _ rfl W.heap.size rfl _ _ (0, 0) _ HW1.out Tryd.underlying39 rfl (by kernel_rfl) ?_))
  refine (right_calls x r (rightB x) _ (HR.out _ (Hold.of_below HB1.out)) (right_eq x)).mono ?_
  rintro e w2 ⟨rfl, hb2⟩
  have HB2 := Lib.hid (below_step HB1.out hb2)
  have HW2 := Lib.hid (show Row39 w2 W.heap.size x r from (hb2.block _ (by simp)).trans HW1.out)
  clear hb2 HK HW1 HB1
  cases hrb : rightB x with
  | false =>
    have HRB := Lib.hid hrb
    clear hrb
    go_wp2
    go_ret
    unfold PutPost
    rw [if_pos HRB.out]
    exact ⟨rfl, HI.out.below HB2.out, Hold.of_below HB2.out⟩
  | true =>
    have HRB := Lib.hid hrb
    clear hrb
    go_wp2_with fail
    refine (drop_calls S w2 s cap L (HI.out.below HB2.out) 40 (enters_of Tryd.func40 (by kernel_rfl) rfl) #[.pointer (some ⟨W.heap.size, 0, none⟩)] (fun l => mB k l.x x) (fun V l hl hh => put1_calls k l.x x l.r r W.heap.size V ((hh.block _ (Array.getElem?_eq_some_iff.1 HW2.out).1 (fun hm => by have := HLT.out _ hm; omega)).trans HW2.out) (HL.out l hl) HX.out (((HI.out.fix l hl).hold ((Hold.of_below HB2.out).trans (hh.sub HI.out.own))).rd) (HR.out _ ((Hold.of_below HB2.out).trans hh)))).mono ?_
    rintro e w3 ⟨rfl, hi3, hh3⟩
    have HW3 := Lib.hid (show Row39 w3 W.heap.size x r from (hh3.block _ (Array.getElem?_eq_some_iff.1 HW2.out).1 (fun hm => by have := HLT.out _ hm; omega)).trans HW2.out)
    have HH3 := Lib.hid ((Hold.of_below HB2.out).trans hh3)
    have HI3 := Lib.hid (show Inv S w3 s cap (rest k x L) from hi3)
    clear hi3 hh3 HW2 HB2
    go_upto_region 6 with (fail)
    go_cut [5] (fun v5 wc => ∃ (b : Nat) (r' : Fr), v5 = .pointer (some ⟨b, 0, none⟩) ∧ Hid (w3.heap.size ≤ b) ∧ Hid (LinkAt wc b x r' (sizeI k x) none none) ∧ Hid (Below w3.heap.size w3 wc) ∧ Hid (Fix (b :: S) wc x r'))
    case first =>
      have c0 : w3.cell? ⟨W.heap.size, 0, none⟩ = some (.string x.meth) := (row_cell HW3.out 0).trans rfl
      have c1 : w3.cell? ⟨W.heap.size, 1, none⟩ = some (.string x.sch) := (row_cell HW3.out 1).trans rfl
      have c2 : w3.cell? ⟨W.heap.size, 2, none⟩ = some (.string x.host) := (row_cell HW3.out 2).trans rfl
      have c3 : w3.cell? ⟨W.heap.size, 3, none⟩ = some (.string x.path) := (row_cell HW3.out 3).trans rfl
      have c4 : w3.cell? ⟨W.heap.size, 4, none⟩ = some (.slice r.a4 x.qf.length r.c4) := (row_cell HW3.out 4).trans rfl
      have c5 : w3.cell? ⟨W.heap.size, 5, none⟩ = some (.slice r.a5 x.qb.length r.c5) := (row_cell HW3.out 5).trans rfl
      have c6 : w3.cell? ⟨W.heap.size, 6, none⟩ = some (.int .i64 x.stat) := (row_cell HW3.out 6).trans rfl
      have c7 : w3.cell? ⟨W.heap.size, 7, none⟩ = some (.slice r.a7 x.sf.length r.c7) := (row_cell HW3.out 7).trans rfl
      have c8 : w3.cell? ⟨W.heap.size, 8, none⟩ = some (.slice r.a8 x.sb.length r.c8) := (row_cell HW3.out 8).trans rfl
      have c9 : w3.cell? ⟨W.heap.size, 9, none⟩ = some (.int .i64 x.asked) := (row_cell HW3.out 9).trans rfl
      have c10 : w3.cell? ⟨W.heap.size, 10, none⟩ = some (.int .i64 x.came) := (row_cell HW3.out 10).trans rfl
      go_region_with (first | (go_at_call 30; refine (own_calls x r _ (HR.out _ HH3.out.drew) HX.out.small).mono ?_; rintro e w4 ⟨r4, rfl, ho4, hb4⟩; have hb4 : Below w3.heap.size w3 w4 := ⟨hb4.os, hb4.tape, hb4.output, hb4.size, hb4.block⟩; have hw4 : Row39 w4 W.heap.size x r := (hb4.block _ (Array.getElem?_eq_some_iff.1 HW3.out).1).trans HW3.out; have d0 : w4.cell? ⟨W.heap.size, 0, none⟩ = some (.string x.meth) := (row_cell hw4 0).trans rfl; have d1 : w4.cell? ⟨W.heap.size, 1, none⟩ = some (.string x.sch) := (row_cell hw4 1).trans rfl; have d2 : w4.cell? ⟨W.heap.size, 2, none⟩ = some (.string x.host) := (row_cell hw4 2).trans rfl; have d3 : w4.cell? ⟨W.heap.size, 3, none⟩ = some (.string x.path) := (row_cell hw4 3).trans rfl; have d4 : w4.cell? ⟨W.heap.size, 4, none⟩ = some (.slice r.a4 x.qf.length r.c4) := (row_cell hw4 4).trans rfl; have d5 : w4.cell? ⟨W.heap.size, 5, none⟩ = some (.slice r.a5 x.qb.length r.c5) := (row_cell hw4 5).trans rfl; have d6 : w4.cell? ⟨W.heap.size, 6, none⟩ = some (.int .i64 x.stat) := (row_cell hw4 6).trans rfl; have d7 : w4.cell? ⟨W.heap.size, 7, none⟩ = some (.slice r.a7 x.sf.length r.c7) := (row_cell hw4 7).trans rfl; have d8 : w4.cell? ⟨W.heap.size, 8, none⟩ = some (.slice r.a8 x.sb.length r.c8) := (row_cell hw4 8).trans rfl; have d9 : w4.cell? ⟨W.heap.size, 9, none⟩ = some (.int .i64 x.asked) := (row_cell hw4 9).trans rfl; have d10 : w4.cell? ⟨W.heap.size, 10, none⟩ = some (.int .i64 x.came) := (row_cell hw4 10).trans rfl; have HO4 := Lib.hid ho4; have HB4 := Lib.hid hb4; clear ho4 hb4 hw4; dsimp only [stC]) | (go_at_call 24; refine (size_any k x r _ HX.out (HR.out _ (HH3.out.trans (Hold.of_below HB4.out)))).mono ?_; rintro e w5 ⟨rfl, hb5⟩; have HB5 := Lib.hid hb5; clear hb5))
      all_goals go_wp2
      all_goals go_meet
      all_goals
        case rel =>
          have hb5 := below_step HB4.out HB5.out
          have f4 : Fix S w4 x r4 := HO4.out.fix (fun j hj => Nat.lt_of_lt_of_le (HI.out.lt j hj) HH3.out.size)
          have f5 : Fix S w5 x r4 := f4.hold (Hold.of_below HB5.out)
          exact ⟨w5.heap.size, r4, rfl, Lib.hid hb5.size, Lib.hid (World.alloc_heap_new w5 _), Lib.hid (below_alloc hb5 _), Lib.hid ((f5.new (Nat.le_refl _)).hold (Hold.of_below (below_alloc (Below.refl _ _) _)))⟩
    case rest =>
      obtain ⟨b, r4, rfl, hbz, hlk, hbel, hfix⟩ := hcut
      have HIc := Lib.hid (HI3.out.below hbel.out)
      have hz := sizeI_eq HX.out
      have hz1 := hz.2.1
      have hz2 := hz.2.2
      have hc0 := HI.out.cap0
      have hc1 := HI.out.cap1
      have cb : wc.cell? ⟨b, 11, none⟩ = some (.int .i64 (sizeI k x)) := (row_cell hlk.out 11).trans rfl
      have cs : wc.cell? ⟨s, 1, none⟩ = some (.int .i64 cap) := (row_cell HIc.out.ch.st 1).trans rfl
      clear hz
      by_cases hcap : cap < sizeI k x
      · go_wp2
        go_quiet (fail)
        go_wp2
        go_ret
        unfold PutPost
        rw [if_neg (by rw [HRB.out]; simp), if_pos hcap]
        exact ⟨rfl, HIc.out.below (pw_below_drewN (Below.refl _ _) nq), (HH3.out.trans (Hold.of_below hbel.out)).drewN nq⟩
      · have hcap' : sizeI k x ≤ cap := by omega
        have HCAP := Lib.hid hcap
        clear hcap
        go_wp2
        go_quiet (fail)
        go_wp2
        have HCS := Lib.hid cs
        have HCB := Lib.hid cb
        clear cs cb
        go_loopw [45] (fun _ wr => ∃ n : Nat, n ≤ (rest k x L).length ∧ Hid (Chain wr s cap (total ((rest k x L).take n)) ((rest k x L).take n)) ∧ Hid (Hold (own1 s (rest k x L)) wc wr) ∧ Hid (n < (rest k x L).length → cap - sizeI k x < total ((rest k x L).take (n + 1)))) (fun _ wr => usedOf wr s)
        case atStart =>
          exact ⟨(rest k x L).length, Nat.le_refl _, Lib.hid (by rw [List.take_length]; exact (HIc.out.below (pw_below_drewN (Below.refl _ _) nq)).ch), Lib.hid ((Hold.refl _ _).drewN nq), Lib.hid (fun h => absurd h (Nat.lt_irrefl _))⟩
        case round =>
          obtain ⟨n, hn, hch, hho, hlast⟩ := hrel
          have hltM : ∀ j ∈ own1 s (rest k x L), j < w3.heap.size := HI3.out.ltW
          have hlk2 : LinkAt wr b x r4 (sizeI k x) none none := (hho.out.block b (Array.getElem?_eq_some_iff.1 hlk.out).1 (fun hm => by have := hltM _ hm; have := hbz.out; omega)).trans hlk.out
          have hpos : ∀ l ∈ (rest k x L).take n, 64 ≤ l.sz := fun l hl => HIc.out.pos l (List.mem_of_mem_take hl)
          have hsubT : ((rest k x L).take n).Sublist (rest k x L) := List.take_sublist _ _
          have ht0 := total_nonneg hpos
          have ht1 := total_sub hsubT HIc.out.pos
          have ht2 := HIc.out.most
          have cb : wr.cell? ⟨b, 11, none⟩ = some (.int .i64 (sizeI k x)) := (row_cell hlk2 11).trans rfl
          have cs1 : wr.cell? ⟨s, 1, none⟩ = some (.int .i64 cap) := (row_cell hch.out.st 1).trans rfl
          have cs2 : wr.cell? ⟨s, 2, none⟩ = some (.int .i64 (total ((rest k x L).take n))) := (row_cell hch.out.st 2).trans rfl
          have cs4 : wr.cell? ⟨s, 4, none⟩ = some (ptr (atB ((rest k x L).take n) (((rest k x L).take n).length - 1))) := (row_cell hch.out.st 4).trans rfl
          have HLK2 := Lib.hid hlk2
          have HLTM := Lib.hid hltM
          have HPOS := Lib.hid hpos
          have HT0 := Lib.hid ht0
          have HT1 := Lib.hid ht1
          have HT2 := Lib.hid ht2
          by_cases hgt : cap - sizeI k x < total ((rest k x L).take n)
          · -- the oldest one goes
            obtain ⟨m, rfl⟩ : ∃ m, n = m + 1 := by
              cases n with
              | zero => simp [total] at hgt; omega
              | succ m => exact ⟨m, rfl⟩
            obtain ⟨l, hl⟩ : ∃ l, (rest k x L)[m]? = some l := ⟨(rest k x L)[m], List.getElem?_eq_getElem (by omega)⟩
            have hlt' : ((rest k x L).take (m + 1))[m]? = some l := by rw [List.getElem?_take]; simp [hl]
            have hlen : ((rest k x L).take (m + 1)).length - 1 = m := by rw [List.length_take]; omega
            have hat : ptr (atB ((rest k x L).take (m + 1)) (((rest k x L).take (m + 1)).length - 1)) = .pointer (some ⟨l.b, 0, none⟩) := by rw [hlen, atB_some hlt']; rfl
            rw [hat] at cs4
            have herase : ((rest k x L).take (m + 1)).eraseIdx m = (rest k x L).take m := by
              rw [List.eraseIdx_eq_take_drop_succ, List.take_take]
              simp
            have hte := total_eraseIdx hlt'
            rw [herase] at hte
            have hlz := hpos l (List.mem_of_getElem? hlt')
            have ht3 : 0 ≤ total ((rest k x L).take m) := total_nonneg (fun l hl => HIc.out.pos l (List.mem_of_mem_take hl))
            have hwrap : wrap64 (total ((rest k x L).take (m + 1)) - l.sz) = total ((rest k x L).take m) := by
              rw [← hte]
              unfold wrap64
              omega
            have hgt' := hgt
            have hnext : m < (rest k x L).length → cap - sizeI k x < total ((rest k x L).take (m + 1)) := fun _ => hgt'
            have hmlen : m ≤ (rest k x L).length := by omega
            have hmeas : (total ((rest k x L).take m)).toNat < (total ((rest k x L).take (m + 1))).toNat := by omega
            have HHAT := Lib.hid hlt'
            have HER := Lib.hid herase
            have HWR := Lib.hid hwrap
            have HNEXT := Lib.hid hnext
            have HML := Lib.hid hmlen
            have HMEAS := Lib.hid hmeas
            have hw1 : IntKind.i64.wrap (cap - sizeI k x) = cap - sizeI k x := IntWalk.i64_in _ (by omega)
            have HCS2 := Lib.hid cs2
            clear hl hlt' hlen hat herase hte hlz ht3 hwrap hnext hmlen hmeas hgt' hlk2 hltM hpos ht0 ht1 ht2 hsubT
            go_wp2
            go_quiet (fail)
            clear hw1
            go_wp2_with (go_at_call 28; refine (out_at (hch.out.hold (S := []) ((Hold.refl _ _).drewN _) (by simp) (by simp)) HHAT.out).mono ?_; rintro e w9 ⟨⟨v, rfl⟩, ho, hu⟩; have HO := Lib.hid ho; have HU := Lib.hid hu; clear ho hu)
            go_roundw
            case rel =>
              have hc9 := OutAt.chain hch.out HHAT.out HO.out
              rw [HER.out, HWR.out] at hc9
              have hsub : ∀ j ∈ own1 s ((rest k x L).take (m + 1)), j ∈ own1 s (rest k x L) := own1_sub (fun l hl => List.mem_of_mem_take hl)
              exact ⟨m, HML.out, Lib.hid hc9, Lib.hid (hho.out.trans ((((Hold.refl _ wr).drewN _).trans (Hold.of_upd HU.out)).sub hsub)), HNEXT⟩
            case measure =>
              have hc9 := OutAt.chain hch.out HHAT.out HO.out
              rw [HER.out, HWR.out] at hc9
              rw [usedOf_at hc9.st, usedOf_at hch.out.st]
              exact HMEAS.out
          · have hle : total ((rest k x L).take n) ≤ cap - sizeI k x := by omega
            have hsb : s ≠ b := by have := hltM s (.head _); have := hbz.out; omega
            have hnb : ∀ (i : Nat) (m : Lk), ((rest k x L).take n)[i]? = some m → b ≠ m.b := fun i m hi => by
              have := hltM m.b (.tail _ (List.mem_map.2 ⟨m, List.mem_of_mem_take (List.mem_of_getElem? hi), rfl⟩))
              have := hbz.out
              omega
            have hw1 : IntKind.i64.wrap (cap - sizeI k x) = cap - sizeI k x := IntWalk.i64_in _ (by omega)
            have hwrap : wrap64 (total ((rest k x L).take n) + sizeI k x) = total (⟨b, x, r4, sizeI k x⟩ :: (rest k x L).take n) := by
              rw [total_cons]
              show _ = sizeI k x + _
              unfold wrap64
              omega
            have hmost : total (⟨b, x, r4, sizeI k x⟩ :: (rest k x L).take n) ≤ cap := by
              rw [total_cons]
              show sizeI k x + _ ≤ _
              omega
            have HSB := Lib.hid hsb
            have HNB := Lib.hid hnb
            have HWRAP := Lib.hid hwrap
            have HMOST := Lib.hid hmost
            have HLE := Lib.hid hle
            have HN := Lib.hid hn
            clear hlk2 hltM hpos ht0 ht1 ht2 hsubT hsb hnb hwrap hmost
            go_wp2
            go_quiet (fail)
            clear hw1
            go_wp2_with (go_at_call 29; refine (in_chain (l := ⟨b, x, r4, sizeI k x⟩) (hch.out.hold (S := []) ((Hold.refl _ _).drewN _) (by simp) (by simp)) HLK2.out HSB.out HNB.out).mono ?_; rintro e w9 ⟨⟨v, rfl⟩, hc9, hu9⟩; have HC9 := Lib.hid hc9; have HU9 := Lib.hid hu9; clear hc9 hu9)
            go_ret
            have hc9 := HC9.out
            rw [show wrap64 (total ((rest k x L).take n) + (⟨b, x, r4, sizeI k x⟩ : Lk).sz) = _ from HWRAP.out] at hc9
            have hbW : W.heap.size ≤ b := Nat.le_trans HH3.out.size hbz.out
            have hsubM : ∀ j ∈ own1 s (rest k x L), j ∈ own1 s L := own1_sub (fun l hl => (List.mem_filter.1 hl).1)
            have hstep : Hold (b :: own1 s (rest k x L)) wr w9 := (((Hold.refl _ wr).drewN _).trans (Hold.of_upd HU9.out)).sub (fun j hj => by
              rcases List.mem_cons.1 hj with rfl | hj
              · exact .tail _ (.head _)
              rcases List.mem_cons.1 hj with rfl | hj
              · exact .head _
              · obtain ⟨m, hm, rfl⟩ := List.mem_map.1 hj
                exact .tail _ (.tail _ (List.mem_map.2 ⟨m, List.mem_of_mem_take hm, rfl⟩)))
            have hcw : Hold (b :: own1 s (rest k x L)) wc w9 := (hho.out.sub (fun j hj => .tail _ hj)).trans hstep
            have hWw : Hold (b :: own1 s L) W w9 := (((HH3.out.trans (Hold.of_below hbel.out)).sub (fun j hj => .tail _ hj)).trans (hcw.sub (fun j hj => by
              rcases List.mem_cons.1 hj with rfl | hj
              · exact .head _
              · exact .tail _ (hsubM j hj))))
            have hWw2 : Hold (own1 s L) W w9 := hWw.old (fun j hj hlt => by
              rcases List.mem_cons.1 hj with rfl | hj
              · omega
              · exact hj)
            have hbS : ∀ j ∈ b :: own1 s L, j ∈ b :: S := fun j hj => by
              rcases List.mem_cons.1 hj with rfl | hj
              · exact .head _
              · exact .tail _ (HI.out.own j hj)
            have hbc : b < wc.heap.size := (Array.getElem?_eq_some_iff.1 hlk.out).1
            unfold PutPost
            rw [if_neg (by rw [HRB.out]; simp), if_neg (by have := HCAP.out; omega)]
            refine ⟨b, r4, n, rfl, hbW, HN.out, ⟨hc9, .tail _ HI.out.ss, fun l hl => ?_, fun j hj => ?_, fun l hl => ?_, fun l hl => ?_, HMOST.out, HI.out.cap0, HI.out.cap1⟩, hWw2, HLE.out, hlast.out⟩
            · rcases List.mem_cons.1 hl with rfl | hl
              · exact .head _
              · exact .tail _ (HI.out.sl l (List.mem_filter.1 (List.mem_of_mem_take hl)).1)
            · rcases List.mem_cons.1 hj with rfl | hj
              · exact Nat.lt_of_lt_of_le hbc hcw.size
              · exact Nat.lt_of_lt_of_le (HI.out.lt j hj) hWw2.size
            · rcases List.mem_cons.1 hl with rfl | hl
              · exact hfix.out.hold (hcw.sub (fun j hj => hbS j (by
                  rcases List.mem_cons.1 hj with rfl | hj
                  · exact .head _
                  · exact .tail _ (hsubM j hj))))
              · exact ((HI.out.fix l (List.mem_filter.1 (List.mem_of_mem_take hl)).1).new hbW).hold (hWw.sub hbS)
            · rcases List.mem_cons.1 hl with rfl | hl
              · exact hz1
              · exact HI.out.pos l (List.mem_filter.1 (List.mem_of_mem_take hl)).1
end Go.Proofs.YtbedkjmdckgbgaaDoor.P
/- (*Store).List: copies of all, the newest first. -/
namespace Go.Proofs.YtbedkjmdckgbgaaDoor.P
open Go.RowKit Go.Shelf Go.Proofs.YtbedkjmdckgbgaaDoorW.PrintWords
attribute [local go_sem] Oper.semAt_some
def toS (x : St) : S39 := ⟨⟨x.meth, x.sch, x.host, x.path, x.qf, x.qb⟩, ⟨x.stat, x.sf, x.sb⟩, x.asked, x.came⟩
theorem RdO.m {w : World} {base : Nat} {x : St} {r : Fr} (h : RdO w base x r) : (k39).M w base (fun _ => True) (toS x) (stC x r).toList :=
  ⟨[.string x.meth, .string x.sch, .string x.host, .string x.path, .slice r.a4 x.qf.length r.c4, .slice r.a5 x.qb.length r.c5], [.int .i64 x.stat, .slice r.a7 x.sf.length r.c7, .slice r.a8 x.sb.length r.c8, .int .i64 x.asked, .int .i64 x.came], rfl,
    ⟨[.string x.meth], _, rfl, rfl, [.string x.sch], _, rfl, rfl, [.string x.host], _, rfl, rfl, [.string x.path], _, rfl, rfl, [.slice r.a4 x.qf.length r.c4], _, rfl, ⟨_, rfl, h.h4⟩, ⟨_, rfl, h.h5⟩⟩,
    [.int .i64 x.stat, .slice r.a7 x.sf.length r.c7, .slice r.a8 x.sb.length r.c8], _, rfl, ⟨[.int .i64 x.stat], _, rfl, rfl, [.slice r.a7 x.sf.length r.c7], _, rfl, ⟨_, rfl, h.h7⟩, ⟨_, rfl, h.h8⟩⟩, [.int .i64 x.asked], _, rfl, rfl, rfl⟩
theorem R_same {α : Type} {d : Kd α} {e base : Nat} {w w1 : World} {v : Value} {xs : List α} (h : Kd.R d e w base (fun _ => True) v xs) (hs : Same w w1) : Kd.R d e w1 base (fun _ => True) v xs :=
  Kd.R_mono (Kd.R_move (Kd.R_bound h) (fun k hk => by
    obtain ⟨_, _, _, q, _, cells, hc⟩ := hk
    exact hs k cells q (0, 0) hc)) (fun _ _ => trivial)
/-- A value in a cell. -/
def Holds (B : Nat) (v : Value) (w : World) : Prop := w.cell? ⟨B, 0, none⟩ = some v
/-- Between two rounds of List. -/
structure ListI (W : World) (s : Nat) (cap : Int) (L : List Lk) (H : Nat) (pre : List Lk) (V : World) : Prop where
  ch : Chain V s cap (total L) L
  hold : Below W.heap.size W V
  out : ∃ v, boxC V H v 47 ∧ Kd.R k39 39 V W.heap.size (fun _ => True) v (pre.map fun l => toS l.x)
  b1 : boxC V (H + 1) (.pointer (some ⟨s, 0, none⟩)) 23
theorem ListI.ownFrom (W : World) (s : Nat) (cap : Int) (L : List Lk) (H B : Nat) (hB : W.heap.size ≤ B) : OwnFrom B (ListI W s cap L H) := by
  intro pre V V' row h hg hr
  have hs := same_grown hg (fun r e => (hr r e).2)
  obtain ⟨v, hb, ho⟩ := h.out
  exact ⟨h.ch.same hs, h.hold.grown hg h.hold.size (fun k e => Nat.le_trans hB (hr k e).1), ⟨v, hb.same hs, R_same ho hs⟩, h.b1.same hs⟩
theorem replicate_false (n j : Nat) : (Array.replicate n false).getD j false = false := by
  by_cases h : j < n
  · simp [h]
  · simp [h]
theorem list_step {W : World} {s : Nat} {cap : Int} {L : List Lk} {H : Nat} {pre : List Lk} {l : Lk} {V w1 w2 : World} {sv v1 : Value} (h : ListI W s cap L H pre V) (hH : W.heap.size ≤ H) (hlt : ∀ k ∈ own1 s L, k < W.heap.size) {xs : List S39} (ho : Kd.R k39 39 V W.heap.size (fun _ => True) sv xs) (hb1 : Below V.heap.size V w1)
    (hg : w1.grownBy w2 sv.ownBlock) (hb2 : Below W.heap.size W w2) (ho2 : Kd.R k39 39 w2 W.heap.size (fun _ => True) v1 ((pre.map fun l => toS l.x) ++ [toS l.x])) (hbx : boxC w2 H sv 47) (B : Nat) :
    KeepsFrom B V (w2.setCell ⟨H, 0, none⟩ v1) ∧ ListI W s cap L H (pre ++ [l]) (w2.setCell ⟨H, 0, none⟩ v1) := by
  obtain ⟨inner, hown⟩ := Kd.R_own ho
  have typed : ∀ k, sv.ownBlock = some k → ∃ cells, V.heap[k]? = some (.cells cells 39 (0, 0)) := fun k hk => own_typed hown k hk
  have away : ∀ (k : Nat) (o : Obj), w1.heap[k]? = some o → (∀ cells, o ≠ .cells cells 39 (0, 0)) → w2.heap[k]? = w1.heap[k]? := fun k o hk hne => by
    refine hg.block k (Array.getElem?_eq_some_iff.1 hk).1 (fun e => ?_)
    obtain ⟨cells, hc⟩ := typed k e.symm
    have := (hb1.block k (Array.getElem?_eq_some_iff.1 hc).1).trans hc
    rw [hk] at this
    injection this with this
    exact hne cells this
  have hc1 := h.ch.hold (S := []) (Hold.of_below hb1) (by simp) (by simp)
  have hc2 : Chain w2 s cap (total L) L := ⟨(away _ _ hc1.st (fun cells e => by injection e with _ e; cases e)).trans hc1.st, fun i m hi => (away _ _ (hc1.lk i m hi) (fun cells e => by injection e with _ e; cases e)).trans (hc1.lk i m hi), hc1.nd, hc1.ns⟩
  have hk12 : KeepsOthers w1 w2 := ⟨hg.size, fun k o hk ho => (away k o hk (fun cells e => by rw [e] at ho; cases ho)).trans hk⟩
  have ne : ∀ k ∈ own1 s L, k ≠ H := fun k hk => by have := hlt k hk; omega
  have hb1x := h.b1.below hb1 (Array.getElem?_eq_some_iff.1 h.b1).1
  have hb2x : boxC w2 (H + 1) (.pointer (some ⟨s, 0, none⟩)) 23 := (away _ _ hb1x (fun cells e => by injection e with _ e; cases e)).trans hb1x
  refine ⟨(((keeps_below hb1).trans hk12).trans (KeepsOthers.setCell _ _ _)).from _, ⟨?_, hb2.setCell (by exact hH) _, ⟨v1, row_set hbx 0 _, ?_⟩, (row_other (by omega)).trans hb2x⟩⟩
  · exact ⟨(row_other (fun e => ne s (.head _) e.symm)).trans hc2.st, fun i m hi => (row_other (fun e => ne m.b (.tail _ (List.mem_map.2 ⟨m, List.mem_of_getElem? hi, rfl⟩)) e.symm)).trans (hc2.lk i m hi), hc2.nd, hc2.ns⟩
  · rw [List.map_append]
    exact Kd.R_set ho2 hbx (by decide) 0 v1
/-- What was made from a world on is none of a row that lay there. -/
theorem Kd.M_lower_ {α : Type} {d : Kd α} {w V : World} {x : α} {cs : List Value} {base b e s n : Nat} {u : Value} {ys : List Value} (h : d.M w base (fun _ => True) x cs) (ho : V.ownsRow b e s u n ys) (hl : V.heap.size ≤ base) {base' : Nat} (hb : base' ≤ base) : d.M w base' (fun k => True ∧ some k ≠ u.ownBlock) x cs :=
  d.M_lower hb (d.M_mono (fun k hk => ⟨trivial, fun e => by have := own_lt ho k e.symm; have := hk.2.1; omega⟩) (d.M_bound h))
set_option maxHeartbeats 4000000 in
set_option maxRecDepth 100000 in
theorem list_calls (S : List Nat) (W : World) (s : Nat) (cap : Int) (L : List Lk) (hI : Inv S W s cap L) (hL : ∀ l ∈ L, Small l.x) :
    Calls Tryd.prog 14 #[.pointer (some ⟨s, 0, none⟩)] W fun e w' => ∃ v, e = .returned v ∧ Kd.R k39 39 w' W.heap.size (fun _ => True) v (L.map fun l => toS l.x) ∧ Inv S w' s cap L ∧ Below W.heap.size W w' := by
  refine (callsIn_wide (n := 9)).1 ?_
  have HI := Lib.hid hI
  have HL := Lib.hid hL
  clear hI hL
  refine callsIn_of_wp_marks Tryd.func14 rfl trivial ?_ rfl
  simp only [Tryd.ntmps14, List.size_toArray, List.length_cons, List.length_nil, Nat.reduceAdd, Nat.reduceSub, Array.replicate_succ, Array.replicate_zero, List.push_toArray, List.append_toArray, List.nil_append, List.cons_append]
  gi_wp2_with (first | (refine ⟨trivial, ?_⟩; gi_at_call 25; refine (callsIn_wide.2 (ok_calls _ s cap (total L) _ _ HI.out.ch.st)).mono ?_; rintro e w' ⟨rfl, hw'⟩; rw [hw']; clear hw' w') | (refine ⟨trivial, ?_⟩; gi_at_call 26; refine (callsIn_wide.2 (links_calls _ _)).mono ?_; rintro e w' ⟨rfl, rfl⟩))
  obtain ⟨W4, hW4⟩ : ∃ W4, ((W.alloc (.cells #[.slice none 0 0] 47)).alloc (.cells #[.pointer (some ⟨s, 0, none⟩)] 23)) = W4 := ⟨_, rfl⟩
  have b0 : boxC W4 W.heap.size (.slice none 0 0) 47 := by rw [← hW4]; exact (boxC.new W _ _).alloc _
  have b1 : boxC W4 (W.heap.size + 1) (.pointer (some ⟨s, 0, none⟩)) 23 := by
    rw [← hW4]
    have h := boxC.new (W.alloc (.cells #[.slice none 0 0] 47)) (.pointer (some ⟨s, 0, none⟩)) 23
    rw [World.size_alloc] at h
    exact h
  have hb4 : Below W.heap.size W W4 := by rw [← hW4]; exact below_alloc (below_alloc (Below.refl _ _) _) _
  have hz4 : W4.heap.size = W.heap.size + 2 := by rw [← hW4]; simp
  rw [hW4]
  have HW4 := Lib.hid hW4
  have HZ4 := Lib.hid hz4
  clear hW4 hz4
  have h0 : ListI W s cap L W.heap.size [] W4 := ⟨HI.out.ch.hold (S := []) (Hold.of_below hb4) (by simp) (by simp), hb4, ⟨_, b0, Kd.R_nil _ _ _ _ _⟩, b1⟩
  have H0 := Lib.hid h0
  clear b0 b1 hb4 h0
  have HND := Lib.hid (nodup_of HI.out.ch)
  refine wpIn_over rfl (by omega) (gf := 45) (lb := #[.pointer (some ⟨W.heap.size + 1, 0, none⟩)]) rfl trivial (enters_of Tryd.func45 (by kernel_rfl) rfl) (encs := encL) (fun _ => rfl) (xs := L) (iter_over Fence.wide _ trivial rfl (by omega) (W.heap.size + 1) s L HND.out) (ListI W s cap L W.heap.size) (fun pre V h => chain_iter h.ch h.b1) (ListI.ownFrom W s cap L W.heap.size W4.heap.size (by rw [HZ4.out]; omega)) H0.out (fun x => { tmps := #[.pointer (some ⟨s, 0, none⟩), undef, .slice none 0 0, .pointer (some ⟨W.heap.size, 0, none⟩), .pointer (some ⟨x.b, 0, none⟩), .pointer (some ⟨s, 0, none⟩), .bool true, .bool false, .pointer (some ⟨s, 0, none⟩), .func (.func 45) #[] #[.pointer (some ⟨W.heap.size + 1, 0, none⟩)], .pointer (some ⟨x.b, 0, none⟩), undef, undef, undef, undef, undef, undef, undef, undef, undef], defers := [] }) ?assign ?body ?done
  case assign =>
    intro l x V K hK
    dsimp only [encL]
    gi_wp2
    exact hK
  case body =>
    intro ll pre l rest V hx hi
    obtain ⟨v, hbv, hov⟩ := hi.out
    obtain ⟨A1, k1, rfl⟩ := Kd.R_slice hov
    have hmem : l ∈ L := by rw [hx]; simp
    have hL : LinkAt V l.b l.x l.r l.sz _ _ := hi.ch.lk pre.length l (by rw [hx]; simp)
    have c0 : V.cell? ⟨l.b, 0, none⟩ = some (.string l.x.meth) := (row_cell hL 0).trans rfl
    have c1 : V.cell? ⟨l.b, 1, none⟩ = some (.string l.x.sch) := (row_cell hL 1).trans rfl
    have c2 : V.cell? ⟨l.b, 2, none⟩ = some (.string l.x.host) := (row_cell hL 2).trans rfl
    have c3 : V.cell? ⟨l.b, 3, none⟩ = some (.string l.x.path) := (row_cell hL 3).trans rfl
    have c4 : V.cell? ⟨l.b, 4, none⟩ = some (.slice l.r.a4 l.x.qf.length l.r.c4) := (row_cell hL 4).trans rfl
    have c5 : V.cell? ⟨l.b, 5, none⟩ = some (.slice l.r.a5 l.x.qb.length l.r.c5) := (row_cell hL 5).trans rfl
    have c6 : V.cell? ⟨l.b, 6, none⟩ = some (.int .i64 l.x.stat) := (row_cell hL 6).trans rfl
    have c7 : V.cell? ⟨l.b, 7, none⟩ = some (.slice l.r.a7 l.x.sf.length l.r.c7) := (row_cell hL 7).trans rfl
    have c8 : V.cell? ⟨l.b, 8, none⟩ = some (.slice l.r.a8 l.x.sb.length l.r.c8) := (row_cell hL 8).trans rfl
    have c9 : V.cell? ⟨l.b, 9, none⟩ = some (.int .i64 l.x.asked) := (row_cell hL 9).trans rfl
    have c10 : V.cell? ⟨l.b, 10, none⟩ = some (.int .i64 l.x.came) := (row_cell hL 10).trans rfl
    generalize hsl : Value.slice A1 (pre.map fun l => toS l.x).length k1 = sv at hbv hov
    have hS0 : Holds W.heap.size sv V.drew := hbv.cell
    have hlen : pre.length < L.length := by rw [hx]; simp
    have HX := Lib.hid hx
    have HIV := Lib.hid hi
    have HM := Lib.hid hmem
    have HBV := Lib.hid hbv
    have HOV := Lib.hid hov
    have HSL := Lib.hid hsl
    have HLEN := Lib.hid hlen
    clear hx hi hmem hbv hov hL hsl hlen
    have hown := own_calls l.x l.r V.drew ((HI.out.fix l HM.out) _ ((Hold.of_below HIV.out.hold).drew)) (HL.out l HM.out)
    have HOWN := Lib.hid hown
    clear hown
    gi_wp2
    refine wpIn_region_S (by kernel_rfl) (fun ⟨_, _, h⟩ => h) (by kernel_rfl) (fun j w => if j < 7 then Holds W.heap.size sv w else True) ?_
    refine wpAnyS_take (i := 0) (v := sv) (S0 := Holds W.heap.size sv) (fun j => decide (j < 7)) rfl (by kernel_rfl) (by kernel_rfl) (by kernel_rfl) (by kernel_rfl) (fun j _ => replicate_false 9 j) (fun j w hj h => by rwa [if_pos (by simpa using hj)] at h) (fun w h => by rw [if_pos (by omega)]; exact h) (fun _ _ _ h => h) (.inl ⟨by rfl, fun w hw => ?_⟩) hS0 ?_
    · unfold Holds at hw
      go_simp
    refine wpAnyS_one 1 (by kernel_rfl) rfl (fun K hK => ?_)
    go_simp
    refine hK _ _ (by rw [if_pos (by omega)]; exact hS0) ?_
    clear hK K
    refine wpAnyS_one 2 (by kernel_rfl) rfl (fun K hK => ?_)
    go_simp
    refine hK _ _ (by rw [if_pos (by omega)]; exact hS0) ?_
    clear hK K
    refine wpAnyS_one 3 (by kernel_rfl) rfl (fun K hK => ?_)
    go_simp
    refine hK _ _ (by rw [if_pos (by omega)]; exact hS0) ?_
    clear hK K
    refine wpAnyS_one 4 (by kernel_rfl) rfl (fun K hK => ?_)
    go_simp
    refine hK _ _ (by rw [if_pos (by omega)]; exact hS0) ?_
    clear hK K
    refine wpAnyS_one 5 (by kernel_rfl) rfl (fun K hK => ?_)
    go_simp
    refine HOWN.out.mono ?_
    rintro e w1 ⟨r4, rfl, ho1, hb1⟩
    have hb1 : Below V.heap.size V w1 := ⟨hb1.os, hb1.tape, hb1.output, hb1.size, hb1.block⟩
    have hbv1 := HBV.out.below hb1 (Array.getElem?_eq_some_iff.1 HBV.out).1
    have hS1 : Holds W.heap.size sv w1 := hbv1.cell
    have HB1 := Lib.hid hb1
    have HO1 := Lib.hid ho1
    have HBV1 := Lib.hid hbv1
    clear hb1 ho1 hbv1 c0 c1 c2 c3 c4 c5 c6 c7 c8 c9 c10
    dsimp only [stC]
    go_simp
    refine hK _ _ (by rw [if_pos (by omega)]; exact hS1) ?_
    clear hK K
    refine wpAnyS_one 6 (by kernel_rfl) rfl (fun K hK => ?_)
    go_simp
    have hS2 : Holds W.heap.size sv (w1.alloc (.cells #[.string l.x.meth, .string l.x.sch, .string l.x.host, .string l.x.path, .slice r4.a4 l.x.qf.length r4.c4, .slice r4.a5 l.x.qb.length r4.c5, .int .i64 l.x.stat, .slice r4.a7 l.x.sf.length r4.c7, .slice r4.a8 l.x.sb.length r4.c8, .int .i64 l.x.asked, .int .i64 l.x.came] 39)) := (HBV1.out.alloc _).cell
    refine hK _ _ (by rw [if_pos (by omega)]; exact hS2) ?_
    clear hK K
    refine wpAnyS_one 7 (by kernel_rfl) rfl (fun K hK => ?_)
    have ho1 := HO1.out.m
    have hov1 := Kd.R_below HOV.out HB1.out
    obtain ⟨inner, hown1⟩ := Kd.R_own HOV.out
    have hbW := HIV.out.hold.trans (HB1.out.mono HIV.out.hold.size)
    refine Kd.R_append_step k39 W.heap.size rfl _ _ 47 39 (.agg #[.string ByteArray.empty, .string ByteArray.empty, .string ByteArray.empty, .string ByteArray.empty, .slice none 0 0, .slice none 0 0, .int .i64 0, .slice none 0 0, .slice none 0 0, .int .i64 0, .int .i64 0]) 184 rfl Tryd.underlying47 (by kernel_rfl) rfl (by decide) (by decide) sv (pre.map fun l => toS l.x) (toS l.x) [.string l.x.meth, .string l.x.sch, .string l.x.host, .string l.x.path, .slice r4.a4 l.x.qf.length r4.c4, .slice r4.a5 l.x.qb.length r4.c5, .int .i64 l.x.stat, .slice r4.a7 l.x.sf.length r4.c7, .slice r4.a8 l.x.sb.length r4.c8, .int .i64 l.x.asked, .int .i64 l.x.came] (fun _ => True) (fun k => True ∧ some k ≠ sv.ownBlock) rfl rfl (Kd.M_lower_ ho1 hown1 (show V.heap.size ≤ V.drew.heap.size from Nat.le_refl _) (show W.heap.size ≤ V.drew.heap.size from HIV.out.hold.size)) (fun k hk => hk) (fun _ _ => trivial) hov1 hbW hbW.size (by have := HLEN.out; have := total_count HI.out.pos; have := HI.out.most; have := HI.out.cap1; rw [List.length_map]; omega) ?_
    intro v1 w2 ho2 hb2 hg2 _
    have hne : some W.heap.size ≠ sv.ownBlock := Kd.R_ne HOV.out HBV.out (by decide)
    have hbx2 : boxC w2 W.heap.size sv 47 := (hg2.block _ (Array.getElem?_eq_some_iff.1 HBV1.out).1 hne).trans HBV1.out
    obtain ⟨A2, k2, rfl⟩ := Kd.R_slice ho2
    have HO2 := Lib.hid ho2
    have HB2 := Lib.hid hb2
    have HG2 := Lib.hid hg2
    have d2 : w2.cell? ⟨W.heap.size, 0, none⟩ = some sv := hbx2.cell
    have d3 : w2.frozen? ⟨W.heap.size, 0, none⟩ = false := hbx2.free
    have HBX2 := Lib.hid hbx2
    clear ho2 hb2 hg2 hbx2 ho1 hov1 hown1 hbW
    refine hK _ _ (by rw [if_neg (by omega)]; trivial) ?_
    clear hK K
    refine wpAnyS_one 8 (by kernel_rfl) rfl (fun K hK => ?_)
    go_simp
    refine hK _ _ (by rw [if_neg (by omega)]; trivial) ?_
    clear hK K
    refine wpAnyS_done (by kernel_rfl) ?_ _
    have ho2 := HO2.out
    simp only [List.length_append, List.length_map, List.length_singleton] at ho2
    exact list_step HIV.out (Nat.le_refl _) HI.out.ltW HOV.out HB1.out HG2.out HB2.out ho2 HBX2.out _
  case done =>
    intro D V hD hi hdef
    obtain ⟨v, hbv, hov⟩ := hi.out
    obtain ⟨A1, k1, rfl⟩ := Kd.R_slice hov
    have d2 := hbv.cell
    have HIV := Lib.hid hi
    have HOV := Lib.hid hov
    clear hbv hov hi
    gi_wp2
    have hi2 : ListI W s cap L W.heap.size L (V.putObj D (.deferred none)) := (ListI.ownFrom W s cap L W.heap.size W4.heap.size (by rw [HZ4.out]; omega)).putObj _ HIV.out hD hdef rfl
    have hs : Same V (V.putObj D (.deferred none)) := same_grown (grownBy_putObj' _ _ _) (fun r e => by cases e; exact ⟨_, hdef, rfl⟩)
    refine ⟨by simp, .inl ⟨_, _, rfl, run_takeDeferred hdef, ?_⟩⟩
    have hov := R_same HOV.out hs
    simp only [List.length_map] at hov
    exact ⟨.slice A1 L.length k1, results_tmp (t := 2) rfl _ _ _, _, rfl, hov, HI.out.below hi2.hold, hi2.hold⟩
end Go.Proofs.YtbedkjmdckgbgaaDoor.P
/- theirs, ours, of: what they answer, cell by cell. -/
namespace Go.Proofs.YtbedkjmdckgbgaaDoor.P
open Go.RowKit Go.Shelf Go.Proofs.YtbedkjmdckgbgaaDoorW.PrintWords
set_option maxHeartbeats 2000000 in
set_option maxRecDepth 100000 in
theorem theirs_calls (x : St) (r : Fr) (w : World) : Calls Tryd.prog 20 #[.agg (stC x r)] w fun e w' => e = .returned (.agg (stC x r)) ∧ Below w.heap.size w w' := by
  unfold stC
  go_enter Tryd.func20, Tryd.ntmps20
  go_wp2
  exact bodyPost_ret (v := .agg (stC x r)) (by simp [results, Tryd.results20, go_sem, stC]) rfl ⟨rfl, below_alloc (below_alloc (Below.refl _ _) _) _⟩
set_option maxHeartbeats 2000000 in
set_option maxRecDepth 100000 in
theorem ours_calls (x : St) (r : Fr) (w : World) : Calls Tryd.prog 10 #[.agg (stC x r)] w fun e w' => e = .returned (.agg (stC x r)) ∧ Below w.heap.size w w' := by
  unfold stC
  go_enter Tryd.func10, Tryd.ntmps10
  go_wp2
  exact bodyPost_ret (v := .agg (stC x r)) (by simp [results, Tryd.results10, go_sem, stC]) rfl ⟨rfl, below_alloc (below_alloc (Below.refl _ _) _) _⟩
/-- An exchange of a path. -/
def ofSt (p : ByteArray) : St := ⟨⟨#[71, 69, 84]⟩, ⟨#[104, 116, 116, 112, 115]⟩, ⟨#[97]⟩, p, [], [], 200, [], [], 0, 0⟩
def zeroFr : Fr := ⟨none, 0, none, 0, none, 0, none, 0⟩
set_option maxHeartbeats 2000000 in
set_option maxRecDepth 100000 in
theorem of_calls (p : ByteArray) (w : World) : Calls Tryd.prog 23 #[.string p] w fun e w' => e = .returned (.agg (stC (ofSt p) zeroFr)) ∧ Below w.heap.size w w' := by
  go_enter Tryd.func23, Tryd.ntmps23
  go_wp2
  exact bodyPost_ret (v := .agg (stC (ofSt p) zeroFr)) (by simp [results, Tryd.results23, go_sem, stC, ofSt, zeroFr]) rfl ⟨rfl, below_alloc (Below.refl _ _) _⟩
end Go.Proofs.YtbedkjmdckgbgaaDoor.P
/- A store told by its exchanges alone: what each call makes of the row. -/
namespace Go.Proofs.YtbedkjmdckgbgaaDoor.P
open Go.RowKit Go.Shelf Go.Proofs.YtbedkjmdckgbgaaDoorW.PrintWords
def msize (k : Nat) (xs : List St) : Int := (xs.map (sizeI k)).sum
theorem msize_nil (k : Nat) : msize k [] = 0 := rfl
theorem msize_cons (k : Nat) (x : St) (xs : List St) : msize k (x :: xs) = sizeI k x + msize k xs := by simp [msize]
/-- The store at s has these exchanges; its blocks lie from n0 on. -/
structure At (k n0 s : Nat) (cap : Int) (xs : List St) (w : World) : Prop where
  ex : ∃ (S : List Nat) (L : List Lk), Inv S w s cap L ∧ L.map (·.x) = xs ∧ (∀ j ∈ S, n0 ≤ j) ∧ (∀ l ∈ L, Fine k l.x ∧ l.sz = sizeI k l.x)
  low : n0 ≤ w.heap.size
theorem total_eq {k : Nat} {L : List Lk} (h : ∀ l ∈ L, Fine k l.x ∧ l.sz = sizeI k l.x) : total L = msize k (L.map (·.x)) := by
  induction L with
  | nil => rfl
  | cons l L ih =>
    rw [total_cons, List.map_cons, msize_cons, ih (fun m hm => h m (.tail _ hm)), (h l (.head _)).2]
theorem At.below {k n0 s : Nat} {cap : Int} {xs : List St} {w w' : World} (h : At k n0 s cap xs w) (hb : Below w.heap.size w w') : At k n0 s cap xs w' := by
  obtain ⟨S, L, hI, hx, hS, hL⟩ := h.ex
  exact ⟨⟨S, L, hI.below hb, hx, hS, hL⟩, Nat.le_trans h.low hb.size⟩
/-- Blocks below n0 are written, or none. -/
theorem At.fine {k n0 s : Nat} {cap : Int} {xs : List St} {w : World} (h : At k n0 s cap xs w) : ∀ x ∈ xs, Fine k x := by
  obtain ⟨S, L, hI, hx, hS, hL⟩ := h.ex
  intro x hm
  rw [← hx] at hm
  obtain ⟨l, hl, rfl⟩ := List.mem_map.1 hm
  exact (hL l hl).1
theorem new_at (k : Nat) (W : World) (cap : Int) (h0 : 0 ≤ cap) (h1 : cap ≤ 65536) (n0 : Nat) (hn : n0 ≤ W.heap.size) :
    At k n0 W.heap.size cap [] (W.alloc (.cells (storeC cap 0 none none) 56)) := by
  refine ⟨⟨[W.heap.size], [], ⟨⟨World.alloc_heap_new W _, fun i l h => by simp at h, fun i j l m h => by simp at h, fun i l h => by simp at h⟩, .head _, fun l h => by simp at h, fun j hj => ?_, fun l h => by simp at h, fun l h => by simp at h, by simpa [total] using h0, h0, h1⟩, rfl, fun j hj => ?_, fun l h => by simp at h⟩, by simp; omega⟩
  · obtain rfl : j = W.heap.size := by simpa using hj
    simp
  · obtain rfl : j = W.heap.size := by simpa using hj
    exact hn
def restM (k : Nat) (x : St) (xs : List St) : List St := xs.filter fun y => !(mB k y x)
theorem rest_map (k : Nat) (x : St) (L : List Lk) : (rest k x L).map (·.x) = restM k x (L.map (·.x)) := by
  unfold rest restM
  rw [List.filter_map]
  rfl
def PutM (k n0 s : Nat) (cap : Int) (xs : List St) (x : St) (e : Ending) (w' : World) : Prop :=
  (rightB x = false ∧ e = .returned (.int .i64 1) ∧ At k n0 s cap xs w') ∨
  (rightB x = true ∧ cap < sizeI k x ∧ e = .returned (.int .i64 6) ∧ At k n0 s cap (restM k x xs) w') ∨
  (rightB x = true ∧ sizeI k x ≤ cap ∧ e = .returned (.int .i64 0) ∧ ∃ n, n ≤ (restM k x xs).length ∧ At k n0 s cap (x :: (restM k x xs).take n) w' ∧
    msize k ((restM k x xs).take n) ≤ cap - sizeI k x ∧ (n < (restM k x xs).length → cap - sizeI k x < msize k ((restM k x xs).take (n + 1))))
theorem put_at (k n0 s : Nat) (cap : Int) (xs : List St) (w : World) (h : At k n0 s cap xs w) (x : St) (r : Fr) (hx : Fine k x) (hr : ∀ V, Below n0 w V → Rd V x r) :
    Calls Tryd.prog 19 #[.pointer (some ⟨s, 0, none⟩), .agg (stC x r)] w fun e w' => PutM k n0 s cap xs x e w' ∧ Below n0 w w' := by
  obtain ⟨S, L, hI, hm, hS, hL⟩ := h.ex
  have hlow := h.low
  have hob : ∀ j ∈ own1 s L, n0 ≤ j := fun j hj => hS j (hI.own j hj)
  refine (put_calls k S w s cap L hI (fun l hl => (hL l hl).1) x r hx (fun V hv => hr V (hv.below hlow hob))).mono ?_
  intro e w' hp
  unfold PutPost at hp
  have hrest : ∀ l ∈ rest k x L, Fine k l.x ∧ l.sz = sizeI k l.x := fun l hl => hL l (List.mem_filter.1 hl).1
  cases hb : rightB x with
  | false =>
    rw [if_pos hb] at hp
    exact ⟨.inl ⟨hb, hp.1, ⟨S, L, hp.2.1, hm, hS, hL⟩, Nat.le_trans hlow hp.2.2.size⟩, hp.2.2.below hlow hob⟩
  | true =>
    rw [if_neg (by rw [hb]; simp)] at hp
    by_cases hc : cap < sizeI k x
    · rw [if_pos hc] at hp
      exact ⟨.inr (.inl ⟨hb, hc, hp.1, ⟨S, _, hp.2.1, by rw [rest_map, hm], hS, hrest⟩, Nat.le_trans hlow hp.2.2.size⟩), hp.2.2.below hlow hob⟩
    · rw [if_neg hc] at hp
      obtain ⟨b, r', n, he, hbw, hn, hi', hh, ht, hl⟩ := hp
      have hlen : (rest k x L).length = (restM k x xs).length := by rw [← hm, ← rest_map, List.length_map]
      have htake : ∀ j, total ((rest k x L).take j) = msize k ((restM k x xs).take j) := fun j => by
        rw [total_eq (fun l hl => hrest l (List.mem_of_mem_take hl)), List.map_take, rest_map, hm]
      refine ⟨.inr (.inr ⟨hb, by omega, he, n, by omega, ⟨⟨b :: S, _, hi', ?_, fun j hj => ?_, fun l hl => ?_⟩, Nat.le_trans hlow hh.size⟩, by rw [← htake]; exact ht, fun hlt => by rw [← htake]; exact hl (by omega)⟩), hh.below hlow hob⟩
      · rw [List.map_cons, List.map_take, rest_map, hm]
      · rcases List.mem_cons.1 hj with rfl | hj
        · omega
        · exact hS j hj
      · rcases List.mem_cons.1 hl with rfl | hl
        · exact ⟨hx, rfl⟩
        · exact hrest l (List.mem_of_mem_take hl)
theorem map_erase (L : List Lk) : ∀ i, (L.eraseIdx i).map (·.x) = (L.map (·.x)).eraseIdx i := by
  induction L with
  | nil => intro i; rfl
  | cons l L ih =>
    intro i
    cases i with
    | zero => rfl
    | succ i => simp [ih i]
theorem pick_none_ {m : Lk → Bool} : ∀ {L : List Lk} {o : Option Lk}, L.foldl (pick m) o = none → (∀ l ∈ L, m l = false) ∧ o = none := by
  intro L
  induction L with
  | nil => intro o h; exact ⟨fun l hl => by simp at hl, h⟩
  | cons l L ih =>
    intro o h
    rw [List.foldl_cons] at h
    obtain ⟨h1, h2⟩ := ih h
    have h3 : m l = false ∧ o = none := by
      unfold pick at h2
      cases hc : (m l && beats o l) with
      | true => rw [hc] at h2; simp at h2
      | false =>
        rw [hc] at h2
        have ho : o = none := by simpa using h2
        subst ho
        have hb : beats none l = true := rfl
        rw [hb, Bool.and_true] at hc
        exact ⟨hc, rfl⟩
    exact ⟨fun x hx => by rcases List.mem_cons.1 hx with rfl | hx; exact h3.1; exact h1 x hx, h3.2⟩
def GetM (k n0 s : Nat) (cap : Int) (xs : List St) (y : St) (w : World) (e : Ending) (w' : World) : Prop :=
  ((∀ x ∈ xs, mB k x y = false) ∧ e = .returned (.tuple #[.agg (stC zSt zFr), .bool false]) ∧ At k n0 s cap xs w') ∨
  ∃ i b r', xs[i]? = some b ∧ mB k b y = true ∧ e = .returned (.tuple #[.agg (stC b r'), .bool true]) ∧ RdO w' w.heap.size b r' ∧ At k n0 s cap (b :: xs.eraseIdx i) w'
theorem get_at (k n0 s : Nat) (cap : Int) (xs : List St) (w : World) (h : At k n0 s cap xs w) (y : St) (ry : Fr) (hy : Fine k y) (hr : ∀ V, Below n0 w V → Rd V y ry) :
    Calls Tryd.prog 8 #[.pointer (some ⟨s, 0, none⟩), .agg (reqC y ry)] w fun e w' => GetM k n0 s cap xs y w e w' ∧ Below n0 w w' := by
  obtain ⟨S, L, hI, hm, hS, hL⟩ := h.ex
  have hlow := h.low
  have hob : ∀ j ∈ own1 s L, n0 ≤ j := fun j hj => hS j (hI.own j hj)
  refine (get_calls k S w s cap L hI (fun l hl => (hL l hl).1) y ry hy (fun V hv => hr V (hv.below hlow hob))).mono ?_
  intro e w' hp
  unfold GetPost at hp
  cases hb : bestOf (fun l => mB k l.x y) L with
  | none =>
    rw [hb] at hp
    refine ⟨.inl ⟨fun x hx => ?_, hp.1, ⟨S, L, hp.2.1, hm, hS, hL⟩, Nat.le_trans hlow hp.2.2.size⟩, hp.2.2.mono hlow⟩
    rw [← hm] at hx
    obtain ⟨l, hl, rfl⟩ := List.mem_map.1 hx
    exact (pick_none_ hb).1 l hl
  | some b =>
    rw [hb] at hp
    obtain ⟨r', i, hi, he, hro, hi', hh⟩ := hp
    refine ⟨.inr ⟨i, b.x, r', by rw [← hm, List.getElem?_map, hi]; rfl, (bestOf_mem hb).2, he, hro, ⟨S, _, hi', ?_, hS, fun l hl => ?_⟩, Nat.le_trans hlow hh.size⟩, hh.below hlow hob⟩
    · rw [List.map_cons, map_erase, hm]
    · rcases List.mem_cons.1 hl with rfl | hl
      · exact hL l (bestOf_mem hb).1
      · exact hL l (erase_mem hl)
theorem purge_at (k n0 s : Nat) (cap : Int) (xs : List St) (w : World) (h : At k n0 s cap xs w) (sch host path : ByteArray) :
    Calls Tryd.prog 21 #[.pointer (some ⟨s, 0, none⟩), .string sch, .string host, .string path] w fun e w' => (∃ v, e = .returned v) ∧ At k n0 s cap (xs.filter fun x => !(purgeB sch host path x)) w' ∧ Below n0 w w' := by
  obtain ⟨S, L, hI, hm, hS, hL⟩ := h.ex
  have hlow := h.low
  refine (purge_calls S w s cap L hI sch host path).mono ?_
  rintro e w' ⟨rfl, hi', hh⟩
  refine ⟨⟨_, rfl⟩, ⟨⟨S, _, hi', ?_, hS, fun l hl => hL l (List.mem_filter.1 hl).1⟩, Nat.le_trans hlow hh.size⟩, hh.below hlow (fun j hj => hS j (hI.own j hj))⟩
  rw [← hm, List.filter_map]
  rfl
theorem prefix_at (k n0 s : Nat) (cap : Int) (xs : List St) (w : World) (h : At k n0 s cap xs w) (sch host path : ByteArray) :
    Calls Tryd.prog 22 #[.pointer (some ⟨s, 0, none⟩), .string sch, .string host, .string path] w fun e w' => (∃ v, e = .returned v) ∧ At k n0 s cap (xs.filter fun x => !(prefixB sch host path x)) w' ∧ Below n0 w w' := by
  obtain ⟨S, L, hI, hm, hS, hL⟩ := h.ex
  have hlow := h.low
  refine (prefix_calls S w s cap L hI sch host path).mono ?_
  rintro e w' ⟨rfl, hi', hh⟩
  refine ⟨⟨_, rfl⟩, ⟨⟨S, _, hi', ?_, hS, fun l hl => hL l (List.mem_filter.1 hl).1⟩, Nat.le_trans hlow hh.size⟩, hh.below hlow (fun j hj => hS j (hI.own j hj))⟩
  rw [← hm, List.filter_map]
  rfl
theorem list_at (k n0 s : Nat) (cap : Int) (xs : List St) (w : World) (h : At k n0 s cap xs w) :
    Calls Tryd.prog 14 #[.pointer (some ⟨s, 0, none⟩)] w fun e w' => ∃ v, e = .returned v ∧ Kd.R k39 39 w' w.heap.size (fun _ => True) v (xs.map toS) ∧ At k n0 s cap xs w' ∧ Below w.heap.size w w' := by
  obtain ⟨S, L, hI, hm, hS, hL⟩ := h.ex
  refine (list_calls S w s cap L hI (fun l hl => (hL l hl).1.small)).mono ?_
  rintro e w' ⟨v, rfl, ho, hi', hb⟩
  refine ⟨v, rfl, ?_, ⟨⟨S, L, hi', hm, hS, hL⟩, Nat.le_trans h.low hb.size⟩, hb⟩
  rw [← hm, List.map_map]
  exact ho
theorem used_at (k n0 s : Nat) (cap : Int) (xs : List St) (w : World) (h : At k n0 s cap xs w) :
    Calls Tryd.prog 18 #[.pointer (some ⟨s, 0, none⟩)] w fun e w' => e = .returned (.int .i64 (msize k xs)) ∧ w' = w := by
  obtain ⟨S, L, hI, hm, hS, hL⟩ := h.ex
  rw [← hm, ← total_eq hL]
  exact used_calls w s cap (total L) _ _ hI.ch.st
theorem At.most {k n0 s : Nat} {cap : Int} {xs : List St} {w : World} (h : At k n0 s cap xs w) : msize k xs ≤ cap ∧ 0 ≤ cap ∧ cap ≤ 65536 := by
  obtain ⟨S, L, hI, hm, hS, hL⟩ := h.ex
  rw [← hm, ← total_eq hL]
  exact ⟨hI.most, hI.cap0, hI.cap1⟩
end Go.Proofs.YtbedkjmdckgbgaaDoor.P
/- alive answers true. -/
namespace Go.Proofs.YtbedkjmdckgbgaaDoor.P
open Go.RowKit Go.Shelf Go.Proofs.YtbedkjmdckgbgaaDoorW.PrintWords
abbrev p1 : ByteArray := ⟨#[47, 49]⟩
abbrev p2 : ByteArray := ⟨#[47, 50]⟩
abbrev p3 : ByteArray := ⟨#[47, 51]⟩
theorem m12 : mB 100 (ofSt p1) (ofSt p2) = false := by kernel_rfl
theorem m11 : mB 100 (ofSt p1) (ofSt p1) = true := by kernel_rfl
theorem m21 : mB 100 (ofSt p2) (ofSt p1) = false := by kernel_rfl
theorem m13 : mB 100 (ofSt p1) (ofSt p3) = false := by kernel_rfl
theorem m23 : mB 100 (ofSt p2) (ofSt p3) = false := by kernel_rfl
theorem m32 : mB 100 (ofSt p3) (ofSt p2) = false := by kernel_rfl
theorem m31 : mB 100 (ofSt p3) (ofSt p1) = false := by kernel_rfl
theorem s1 : sizeI 100 (ofSt p1) = 72 := by kernel_rfl
theorem s2 : sizeI 100 (ofSt p2) = 72 := by kernel_rfl
theorem s3 : sizeI 100 (ofSt p3) = 72 := by kernel_rfl
theorem rightOf (p : ByteArray) : rightB (ofSt p) = true := rfl
theorem all_nil (n : ByteArray) : field_All.f 100 [] n = some [] := rfl
theorem vary_nil : field_Vary.f 100 [] = some ([], false) := by kernel_rfl
theorem fineOf (p : ByteArray) (hs : store_Size.f 100 (ofSt p).meth (ofSt p).sch (ofSt p).host (ofSt p).path (ofSt p).qf (ofSt p).qb (ofSt p).stat (ofSt p).sf (ofSt p).sb (ofSt p).asked (ofSt p).came = some 72) : Fine 100 (ofSt p) :=
  ⟨⟨_, vary_nil⟩, fun n => ⟨_, all_nil n⟩, ⟨by simp [ofSt], by simp [ofSt], by simp [ofSt], by simp [ofSt]⟩, ⟨72, hs, by omega, by omega⟩⟩
theorem f1 : Fine 100 (ofSt p1) := fineOf _ (by kernel_rfl)
theorem f2 : Fine 100 (ofSt p2) := fineOf _ (by kernel_rfl)
theorem f3 : Fine 100 (ofSt p3) := fineOf _ (by kernel_rfl)
theorem rdOf (p : ByteArray) (V : World) : Rd V (ofSt p) zeroFr :=
  have hf := Kd.R_reads' (Kd.R_nil k63 63 V 0 (fun _ => True))
  have hb := Kd.R_reads' (Kd.R_nil (Kd.int .u8) 5 V 0 (fun _ => True))
  ⟨hf.2.2, hf.2.1, hb.2.2, hb.2.1, hf.2.2, hf.2.1, hb.2.2, hb.2.1⟩
theorem put_of {n0 s : Nat} {xs : List St} {w : World} (h : At 100 n0 s 150 xs w) (p : ByteArray) (hf : Fine 100 (ofSt p)) (hs : sizeI 100 (ofSt p) = 72) (ys : List St) (hr : restM 100 (ofSt p) xs = ys) (m : Nat) (hm : m ≤ ys.length) (h1 : ∀ j, j ≤ ys.length → msize 100 (ys.take j) = 72 * j) (h2 : (m = 1 ∨ m = ys.length) ∧ m ≤ 1) :
    Calls Tryd.prog 19 #[.pointer (some ⟨s, 0, none⟩), .agg (stC (ofSt p) zeroFr)] w fun e w' => e = .returned (.int .i64 0) ∧ At 100 n0 s 150 (ofSt p :: ys.take m) w' ∧ Below n0 w w' := by
  refine (put_at 100 n0 s 150 xs w h (ofSt p) zeroFr hf (fun V _ => rdOf p V)).mono ?_
  rintro e w' ⟨hp, hb⟩
  rcases hp with ⟨hb', _⟩ | ⟨_, hc, _⟩ | ⟨_, _, he, n, hn, ha, ht, hl⟩
  · rw [rightOf] at hb'
    cases hb'
  · rw [hs] at hc
    omega
  · rw [hr] at hn ha ht hl
    rw [hs] at ht hl
    have e1 := h1 n hn
    rw [e1] at ht
    have hnm : n = m := by
      by_cases hlt : n < ys.length
      · have e2 := h1 (n + 1) (by omega)
        have h4 := hl hlt
        rw [e2] at h4
        omega
      · omega
    rw [hnm] at ha
    exact ⟨he, ha, hb⟩
theorem msize_take {ys : List St} (h : ∀ y ∈ ys, sizeI 100 y = 72) : ∀ j, j ≤ ys.length → msize 100 (ys.take j) = 72 * j := by
  induction ys with
  | nil =>
    intro j hj
    obtain rfl : j = 0 := by simpa using hj
    rfl
  | cons y ys ih =>
    intro j hj
    cases j with
    | zero => rfl
    | succ j =>
      rw [List.take_succ_cons, msize_cons, h y (.head _), ih (fun z hz => h z (.tail _ hz)) j (by simpa using hj)]
      omega
theorem get_yes_of {n0 s : Nat} {xs : List St} {w : World} (h : At 100 n0 s 150 xs w) (p : ByteArray) (hf : Fine 100 (ofSt p)) (i : Nat) (hi : xs[i]? = some (ofSt p)) (hm : mB 100 (ofSt p) (ofSt p) = true) (ho : ∀ (j : Nat) (x : St), xs[j]? = some x → j ≠ i → mB 100 x (ofSt p) = false) :
    Calls Tryd.prog 8 #[.pointer (some ⟨s, 0, none⟩), .agg (reqC (ofSt p) zeroFr)] w fun e w' => (∃ r', e = .returned (.tuple #[.agg (stC (ofSt p) r'), .bool true])) ∧ At 100 n0 s 150 (ofSt p :: xs.eraseIdx i) w' ∧ Below n0 w w' := by
  refine (get_at 100 n0 s 150 xs w h (ofSt p) zeroFr hf (fun V _ => rdOf p V)).mono ?_
  rintro e w' ⟨hg, hb⟩
  rcases hg with ⟨hno, _⟩ | ⟨j, b, r', hj, hmb, he, _, ha⟩
  · rw [hno _ (List.mem_of_getElem? hi)] at hm
    cases hm
  · by_cases hji : j = i
    · subst hji
      obtain rfl : ofSt p = b := Option.some.inj (hi.symm.trans hj)
      exact ⟨⟨r', he⟩, ha, hb⟩
    · rw [ho j b hj hji] at hmb
      cases hmb
theorem get_no_of {n0 s : Nat} {xs : List St} {w : World} (h : At 100 n0 s 150 xs w) (p : ByteArray) (hf : Fine 100 (ofSt p)) (hn : ∀ x ∈ xs, mB 100 x (ofSt p) = false) :
    Calls Tryd.prog 8 #[.pointer (some ⟨s, 0, none⟩), .agg (reqC (ofSt p) zeroFr)] w fun e w' => e = .returned (.tuple #[.agg (stC zSt zFr), .bool false]) ∧ At 100 n0 s 150 xs w' ∧ Below n0 w w' := by
  refine (get_at 100 n0 s 150 xs w h (ofSt p) zeroFr hf (fun V _ => rdOf p V)).mono ?_
  rintro e w' ⟨hg, hb⟩
  rcases hg with ⟨_, he, ha⟩ | ⟨j, b, r', hj, hmb, _⟩
  · exact ⟨he, ha, hb⟩
  · rw [hn b (List.mem_of_getElem? hj)] at hmb
    cases hmb
theorem put_1 {n0 s : Nat} {w : World} (h : At 100 n0 s 150 [] w) : Calls Tryd.prog 19 #[.pointer (some ⟨s, 0, none⟩), .agg (stC (ofSt p1) zeroFr)] w fun e w' => e = .returned (.int .i64 0) ∧ At 100 n0 s 150 [ofSt p1] w' ∧ Below n0 w w' :=
  put_of h p1 f1 s1 [] rfl 0 (by simp) (msize_take (by simp)) (by simp)
theorem put_2 {n0 s : Nat} {w : World} (h : At 100 n0 s 150 [ofSt p1] w) : Calls Tryd.prog 19 #[.pointer (some ⟨s, 0, none⟩), .agg (stC (ofSt p2) zeroFr)] w fun e w' => e = .returned (.int .i64 0) ∧ At 100 n0 s 150 [ofSt p2, ofSt p1] w' ∧ Below n0 w w' :=
  put_of h p2 f2 s2 [ofSt p1] (by simp [restM, m12]) 1 (by simp) (msize_take (by simp [s1])) (by simp)
theorem put_3 {n0 s : Nat} {w : World} (h : At 100 n0 s 150 [ofSt p1, ofSt p2] w) : Calls Tryd.prog 19 #[.pointer (some ⟨s, 0, none⟩), .agg (stC (ofSt p3) zeroFr)] w fun e w' => e = .returned (.int .i64 0) ∧ At 100 n0 s 150 [ofSt p3, ofSt p1] w' ∧ Below n0 w w' :=
  put_of h p3 f3 s3 [ofSt p1, ofSt p2] (by simp [restM, m13, m23]) 1 (by simp) (msize_take (by simp [s1, s2])) (by simp)
theorem get_1 {n0 s : Nat} {w : World} (h : At 100 n0 s 150 [ofSt p2, ofSt p1] w) : Calls Tryd.prog 8 #[.pointer (some ⟨s, 0, none⟩), .agg (reqC (ofSt p1) zeroFr)] w fun e w' => (∃ r', e = .returned (.tuple #[.agg (stC (ofSt p1) r'), .bool true])) ∧ At 100 n0 s 150 [ofSt p1, ofSt p2] w' ∧ Below n0 w w' :=
  get_yes_of h p1 f1 1 rfl m11 (fun j x hj hne => by
    match j, hj, hne with
    | 0, hj, _ => obtain rfl : ofSt p2 = x := by simpa using hj
                  exact m21
    | 1, _, hne => exact absurd rfl hne
    | j + 2, hj, _ => simp at hj)
theorem get_2 {n0 s : Nat} {w : World} (h : At 100 n0 s 150 [ofSt p3, ofSt p1] w) : Calls Tryd.prog 8 #[.pointer (some ⟨s, 0, none⟩), .agg (reqC (ofSt p2) zeroFr)] w fun e w' => e = .returned (.tuple #[.agg (stC zSt zFr), .bool false]) ∧ At 100 n0 s 150 [ofSt p3, ofSt p1] w' ∧ Below n0 w w' :=
  get_no_of h p2 f2 (by simp [m32, m12])
theorem get_3 {n0 s : Nat} {w : World} (h : At 100 n0 s 150 [ofSt p3, ofSt p1] w) : Calls Tryd.prog 8 #[.pointer (some ⟨s, 0, none⟩), .agg (reqC (ofSt p1) zeroFr)] w fun e w' => (∃ r', e = .returned (.tuple #[.agg (stC (ofSt p1) r'), .bool true])) ∧ At 100 n0 s 150 [ofSt p1, ofSt p3] w' ∧ Below n0 w w' :=
  get_yes_of h p1 f1 1 rfl m11 (fun j x hj hne => by
    match j, hj, hne with
    | 0, hj, _ => obtain rfl : ofSt p3 = x := by simpa using hj
                  exact m31
    | 1, _, hne => exact absurd rfl hne
    | j + 2, hj, _ => simp at hj)
set_option maxHeartbeats 4000000 in
set_option maxRecDepth 100000 in
theorem alive_calls (W : World) : Calls Tryd.prog 7 #[] W fun e w' => e = .returned (.bool true) ∧ Below W.heap.size W w' := by
  have hfld : ∀ (p : ByteArray) (w : World), (Instr.field 36 (.agg #[.string ⟨#[71, 69, 84]⟩, .string ⟨#[104, 116, 116, 112, 115]⟩, .string ⟨#[97]⟩, .string p, .slice none 0 0, .slice none 0 0, .int .i64 200, .slice none 0 0, .slice none 0 0, .int .i64 0, .int .i64 0]) 0).run Tryd.prog w = .ok (.agg #[.string ⟨#[71, 69, 84]⟩, .string ⟨#[104, 116, 116, 112, 115]⟩, .string ⟨#[97]⟩, .string p, .slice none 0 0, .slice none 0 0]) w := fun _ _ => by kernel_rfl
  have hu36 := Tryd.underlying36
  have hu32 := Tryd.underlying32
  have hu34 := Tryd.underlying34
  have hu39 := Tryd.underlying39
  go_enter Tryd.func7, Tryd.ntmps7
  go_wp2_with (go_at_call 6; refine (new_calls W 150 (by omega) (by omega)).mono ?_; rintro e w1 ⟨rfl, hw⟩; have ha := new_at 100 W 150 (by omega) (by omega) W.heap.size (Nat.le_refl _); rw [← hw] at ha; have hb := below_alloc (Below.refl W.heap.size W) (.cells (storeC 150 0 none none) 56); rw [← hw] at hb; have HA := Lib.hid ha; have HB := Lib.hid hb; clear ha hb hw)
  go_wp2_with fail
  refine (of_calls p1 _).mono ?_
  rintro e w2 ⟨rfl, hb⟩
  have HA2 := Lib.hid (HA.out.below hb)
  have HB2 := Lib.hid (HB.out.trans (hb.mono HB.out.size))
  clear hb HA HB
  go_wp2_with fail
  refine (theirs_calls (ofSt p1) zeroFr _).mono ?_
  rintro e w3 ⟨rfl, hb⟩
  have HA3 := Lib.hid (HA2.out.below hb)
  have HB3 := Lib.hid (HB2.out.trans (hb.mono HB2.out.size))
  clear hb HA2 HB2
  go_wp2_with fail
  refine (put_1 HA3.out).mono ?_
  rintro e w4 ⟨rfl, ha, hb⟩
  have HA4 := Lib.hid ha
  have HB4 := Lib.hid (HB3.out.trans hb)
  clear ha hb HA3 HB3
  go_wp2_with fail
  refine (of_calls p2 _).mono ?_
  rintro e w5 ⟨rfl, hb⟩
  have HA5 := Lib.hid (HA4.out.below hb)
  have HB5 := Lib.hid (HB4.out.trans (hb.mono HB4.out.size))
  clear hb HA4 HB4
  go_wp2_with fail
  refine (theirs_calls (ofSt p2) zeroFr _).mono ?_
  rintro e w6 ⟨rfl, hb⟩
  have HA6 := Lib.hid (HA5.out.below hb)
  have HB6 := Lib.hid (HB5.out.trans (hb.mono HB5.out.size))
  clear hb HA5 HB5
  go_wp2_with fail
  refine (put_2 HA6.out).mono ?_
  rintro e w7 ⟨rfl, ha, hb⟩
  have HA7 := Lib.hid ha
  have HB7 := Lib.hid (HB6.out.trans hb)
  clear ha hb HA6 HB6
  go_wp2_with fail
  refine (of_calls p1 _).mono ?_
  rintro e w8 ⟨rfl, hb⟩
  have HA8 := Lib.hid (HA7.out.below hb)
  have HB8 := Lib.hid (HB7.out.trans (hb.mono HB7.out.size))
  clear hb HA7 HB7
  dsimp only [stC, ofSt, zeroFr]
  go_wp2_with fail
  refine (get_1 HA8.out).mono ?_
  rintro e w9 ⟨⟨r1, rfl⟩, ha, hb⟩
  have HA9 := Lib.hid ha
  have HB9 := Lib.hid (HB8.out.trans hb)
  clear ha hb HA8 HB8
  dsimp only [stC, ofSt]
  go_wp2_with fail
  refine (of_calls p3 _).mono ?_
  rintro e w10 ⟨rfl, hb⟩
  have HA10 := Lib.hid ((HA9.out.below (below_alloc (Below.refl _ _) _)).below hb)
  have HB10 := Lib.hid ((below_alloc HB9.out _).trans (hb.mono (Nat.le_trans HB9.out.size (by simp))))
  clear hb HA9 HB9
  go_wp2_with fail
  refine (theirs_calls (ofSt p3) zeroFr _).mono ?_
  rintro e w11 ⟨rfl, hb⟩
  have HA11 := Lib.hid (HA10.out.below hb)
  have HB11 := Lib.hid (HB10.out.trans (hb.mono HB10.out.size))
  clear hb HA10 HB10
  go_wp2_with fail
  refine (put_3 HA11.out).mono ?_
  rintro e w12 ⟨rfl, ha, hb⟩
  have HA12 := Lib.hid ha
  have HB12 := Lib.hid (HB11.out.trans hb)
  clear ha hb HA11 HB11
  go_wp2_with fail
  refine (of_calls p2 _).mono ?_
  rintro e w13 ⟨rfl, hb⟩
  have HA13 := Lib.hid (HA12.out.below hb)
  have HB13 := Lib.hid (HB12.out.trans (hb.mono HB12.out.size))
  clear hb HA12 HB12
  dsimp only [stC, ofSt, zeroFr]
  go_wp2_with fail
  refine (get_2 HA13.out).mono ?_
  rintro e w14 ⟨rfl, ha, hb⟩
  have HA14 := Lib.hid ha
  have HB14 := Lib.hid (HB13.out.trans hb)
  clear ha hb HA13 HB13
  dsimp only [stC, zSt, zFr, List.length_nil]
  go_wp2_with fail
  refine (of_calls p1 _).mono ?_
  rintro e w15 ⟨rfl, hb⟩
  have HA15 := Lib.hid ((HA14.out.below (below_alloc (Below.refl _ _) _)).below hb)
  have HB15 := Lib.hid ((below_alloc HB14.out _).trans (hb.mono (Nat.le_trans HB14.out.size (by simp))))
  clear hb HA14 HB14
  dsimp only [stC, ofSt, zeroFr]
  go_wp2_with fail
  refine (get_3 HA15.out).mono ?_
  rintro e w16 ⟨⟨r3, rfl⟩, ha, hb⟩
  have HA16 := Lib.hid ha
  have HB16 := Lib.hid (HB15.out.trans hb)
  clear ha hb HA15 HB15
  dsimp only [stC, ofSt]
  go_wp2_with fail
  refine (used_at 100 _ _ 150 _ _ (HA16.out.below (below_alloc (Below.refl _ _) _))).mono ?_
  rintro e w ⟨rfl, rfl⟩
  have hms : msize 100 [ofSt p1, ofSt p3] = 144 := by simp [msize, s1, s3]
  rw [hms]
  clear hms
  go_wp2_with fail
  refine (of_calls p1 _).mono ?_
  rintro e w90 ⟨rfl, hb⟩
  have HB90 := Lib.hid ((below_alloc HB16.out _).trans (hb.mono (Nat.le_trans HB16.out.size (by simp))))
  clear hb
  go_wp2_with fail
  refine (theirs_calls (ofSt p1) zeroFr _).mono ?_
  rintro e w91 ⟨rfl, hb⟩
  have HB91 := Lib.hid (HB90.out.trans (hb.mono HB90.out.size))
  clear hb HB90
  go_wp2_with fail
  refine (size_any 100 (ofSt p1) zeroFr _ f1 (rdOf p1 _)).mono ?_
  rintro e w92 ⟨rfl, hb⟩
  have HB92 := Lib.hid (HB91.out.trans (hb.mono HB91.out.size))
  clear hb HB91
  rw [s1]
  go_wp2
  go_ret
  exact ⟨rfl, HB92.out⟩
end Go.Proofs.YtbedkjmdckgbgaaDoor.P
/- Rows of one element and of bytes that are owned: where they lie, what stands in them. -/
namespace Go.Proofs.YtbedkjmdckgbgaaDoor.P
open Go.RowKit Go.Shelf Go.Proofs.YtbedkjmdckgbgaaDoorW.PrintWords
theorem own_form {w : World} {base e size n : Nat} {v : Value} {xs : List Value} (h : w.ownsRow base e size v n xs) (hn : 0 < n) :
    ∃ (g cap : Nat) (cur : Array Value), v = .slice (some ⟨g, 0, none⟩) n cap ∧ base ≤ g ∧ w.heap[g]? = some (.cells cur e (0, 0)) ∧ cur.size = cap * size ∧ n ≤ cap ∧ cur.toList.take (n * size) = xs := by
  rcases h.2 with ⟨_, h0⟩ | ⟨g, cap, cur, hv, hb, hh, h1, _, h3, h4⟩
  · omega
  · exact ⟨g, cap, cur, hv, hb, hh, h3, h1, h4⟩
/-- One exchange's cells, made: its own rows. -/
theorem m_form {w : World} {base : Nat} {ok : Nat → Prop} {x : St} {cs : List Value} (h : (k39).M w base ok (toS x) cs) : ∃ r : Fr, cs = (stC x r).toList ∧ RdO w base x r := by
  obtain ⟨c0, c1, rfl, ⟨a0, a1, rfl, e0, b0, b1, rfl, e1, d0, d1, rfl, e2, f0, f1, rfl, e3, g0, g1, rfl, ⟨v4, e4, h4⟩, ⟨v5, e5, h5⟩⟩, i0, i1, rfl, ⟨j0, j1, rfl, e6, l0, l1, rfl, ⟨v7, e7, h7⟩, ⟨v8, e8, h8⟩⟩, m0, m1, rfl, e9, e10⟩ := h
  obtain ⟨A4, k4, rfl⟩ := Kd.R_slice h4
  obtain ⟨A5, k5, rfl⟩ := Kd.R_slice h5
  obtain ⟨A7, k7, rfl⟩ := Kd.R_slice h7
  obtain ⟨A8, k8, rfl⟩ := Kd.R_slice h8
  have e0' : a0 = [.string x.meth] := e0
  have e1' : b0 = [.string x.sch] := e1
  have e2' : d0 = [.string x.host] := e2
  have e3' : f0 = [.string x.path] := e3
  have e6' : j0 = [.int .i64 x.stat] := e6
  have e9' : m0 = [.int .i64 x.asked] := e9
  have e10' : m1 = [.int .i64 x.came] := e10
  subst e0' e1' e2' e3' e4 e5 e6' e7 e8 e9' e10'
  exact ⟨⟨A4, k4, A5, k5, A7, k7, A8, k8⟩, rfl, ⟨Kd.R_mono h4 (fun _ _ => trivial), Kd.R_mono h5 (fun _ _ => trivial), Kd.R_mono h7 (fun _ _ => trivial), Kd.R_mono h8 (fun _ _ => trivial)⟩⟩
/-- A row of exchanges, owned: member i. -/
theorem R_member {w : World} {base : Nat} {v : Value} {xs : List St} (h : Kd.R k39 39 w base (fun _ => True) v (xs.map toS)) (hn : 0 < xs.length) :
    ∃ (g cap : Nat), v = .slice (some ⟨g, 0, none⟩) xs.length cap ∧ base ≤ g ∧ ∀ (i : Nat) (x : St), xs[i]? = some x → ∃ r : Fr, RdO w base x r ∧ ∀ (j : Nat) (u : Value), (stC x r)[j]? = some u → w.cell? ⟨g, i * 11 + j, none⟩ = some u := by
  obtain ⟨_, inner, hown, hreps⟩ := h
  rw [List.length_map] at hown
  obtain ⟨g, cap, cur, hv, hb, hh, hsz, hc, htake⟩ := own_form hown hn
  refine ⟨g, cap, hv, hb, fun i x hi => ?_⟩
  have hm := hreps.2 i (toS x) (by rw [List.getElem?_map, hi]; rfl)
  obtain ⟨r, he, hr⟩ := m_form hm
  refine ⟨r, hr, fun j u hu => ?_⟩
  have hlt : i < xs.length := (List.getElem?_eq_some_iff.1 hi).1
  have hj : j < 11 := (Array.getElem?_eq_some_iff.1 hu).1
  have h1 : ((inner.drop (i * 11)).take 11)[j]? = some u := by
    have e : (inner.drop (i * 11)).take 11 = (stC x r).toList := he
    rw [e]
    simpa using hu
  rw [List.getElem?_take, if_pos hj, List.getElem?_drop, ← htake, List.getElem?_take] at h1
  have h2 : i * 11 + j < xs.length * (k39).sz := by
    show i * 11 + j < xs.length * 11
    have : (i + 1) * 11 ≤ xs.length * 11 := Nat.mul_le_mul_right _ hlt
    omega
  rw [if_pos h2] at h1
  have h3 : cur[i * 11 + j]? = some u := by simpa using h1
  exact (row_cell hh _).trans h3
/-- Bytes, owned. -/
theorem R_bytes {w : World} {base : Nat} {v : Value} {l : List Int} (h : Kd.R (Kd.int .u8) 5 w base (fun _ => True) v l) (hn : 0 < l.length) :
    ∃ (g cap : Nat) (cur : Array Value), v = .slice (some ⟨g, 0, none⟩) l.length cap ∧ base ≤ g ∧ w.heap[g]? = some (.cells cur 5 (0, 0)) ∧ l.length ≤ cur.size := by
  obtain ⟨_, inner, hown, hreps⟩ := h
  obtain ⟨g, cap, cur, hv, hb, hh, hsz, hc, htake⟩ := own_form hown hn
  have hsz' : cur.size = cap * 1 := hsz
  exact ⟨g, cap, cur, hv, hb, hh, by omega⟩
/-- One field, owned. -/
theorem R_field {w : World} {base : Nat} {v : Value} {f : S63} (h : Kd.R k63 63 w base (fun _ => True) v [f]) :
    ∃ (g cap : Nat) (cur : Array Value), v = .slice (some ⟨g, 0, none⟩) 1 cap ∧ base ≤ g ∧ w.heap[g]? = some (.cells cur 63 (0, 0)) ∧ 2 ≤ cur.size ∧ w.cell? ⟨g, 0, none⟩ = some (.string f.f0) ∧ w.cell? ⟨g, 1, none⟩ = some (.string f.f1) := by
  obtain ⟨_, inner, hown, hreps⟩ := h
  obtain ⟨g, cap, cur, hv, hb, hh, hsz, hc, htake⟩ := own_form hown (by simp)
  have hsz' : cur.size = cap * 2 := hsz
  have hc' : 1 ≤ cap := hc
  have hm := hreps.2 0 f rfl
  obtain ⟨c0, c1, hcs, h0, h1⟩ := hm
  have h0' : c0 = [.string f.f0] := h0
  have h1' : c1 = [.string f.f1] := h1
  subst h0' h1'
  have hin : inner.length = 2 := hreps.1
  have e : inner = [.string f.f0, .string f.f1] := by
    have h2 : (inner.drop (0 * 2)).take 2 = [.string f.f0, .string f.f1] := hcs
    rw [Nat.zero_mul, List.drop_zero, List.take_of_length_le (by omega)] at h2
    exact h2
  subst e
  have ht : cur.toList.take 2 = [.string f.f0, .string f.f1] := htake
  have g0 : cur[0]? = some (.string f.f0) := by
    have : (cur.toList.take 2)[0]? = some (.string f.f0) := by rw [ht]; rfl
    rw [List.getElem?_take, if_pos (by omega)] at this
    simpa using this
  have g1 : cur[1]? = some (.string f.f1) := by
    have : (cur.toList.take 2)[1]? = some (.string f.f1) := by rw [ht]; rfl
    rw [List.getElem?_take, if_pos (by omega)] at this
    simpa using this
  exact ⟨g, cap, cur, hv, hb, hh, by omega, (row_cell hh 0).trans g0, (row_cell hh 1).trans g1⟩
/-- A state told anew where others have written their own. -/
theorem Inv.others {S : List Nat} {W V : World} {s : Nat} {cap : Int} {L : List Lk} {T : List Nat} (h : Inv S W s cap L) (hh : Hold T W V) (hT : ∀ k ∈ T, k ∈ S) (hd : ∀ k ∈ T, k ∉ own1 s L) : Inv S V s cap L :=
  ⟨h.ch.hold hh (fun hm => hd _ hm (.head _)) (fun _ l hi hm => hd _ hm (.tail _ (List.mem_map.2 ⟨l, List.mem_of_getElem? hi, rfl⟩))), h.ss, h.sl, fun k hk => Nat.lt_of_lt_of_le (h.lt k hk) hh.size, fun l hl => (h.fix l hl).hold (hh.sub hT), h.pos, h.most, h.cap0, h.cap1⟩
theorem inv_new {S : List Nat} {w : World} {s : Nat} {cap : Int} (h : StoreAt w s cap 0 none none) (hs : s ∈ S) (hl : ∀ k ∈ S, k < w.heap.size) (h0 : 0 ≤ cap) (h1 : cap ≤ 65536) : Inv S w s cap [] :=
  ⟨⟨h, fun i l h => by simp at h, fun i j l m h => by simp at h, fun i l h => by simp at h⟩, hs, fun l h => by simp at h, hl, fun l h => by simp at h, fun l h => by simp at h, by simpa [total] using h0, h0, h1⟩
end Go.Proofs.YtbedkjmdckgbgaaDoor.P
/- StoreNobody: words for the law's walk. -/
namespace Go.Proofs.YtbedkjmdckgbgaaDoor.P
open Go.RowKit Go.Shelf Go.Proofs.YtbedkjmdckgbgaaDoorW.PrintWords
def actC (kd : Int) (x : St) (r : Fr) : Array Value := #[.int .u8 kd, .string x.meth, .string x.sch, .string x.host, .string x.path, .slice r.a4 x.qf.length r.c4, .slice r.a5 x.qb.length r.c5, .int .i64 x.stat, .slice r.a7 x.sf.length r.c7, .slice r.a8 x.sb.length r.c8, .int .i64 x.asked, .int .i64 x.came]
/-- What stands while the two are asked. -/
structure NobI (W : World) (H : Nat) (kd : Int) (x : St) (r : Fr) (w : World) : Prop where
  low : Below W.heap.size W w
  act : w.heap[H]? = some (.cells (actC kd x r) 38 (0, 0))
  st : w.heap[H + 1]? = some (.cells #[.bool false, .int .i64 0, .int .i64 0, .pointer none, .pointer none] 56 (0, 0))
  arr : w.heap[H + 2]? = some (.cells #[.pointer none, .pointer (some ⟨H + 1, 0, none⟩)] 23 (0, 0))
theorem NobI.below {W : World} {H : Nat} {kd : Int} {x : St} {r : Fr} {w w' : World} (h : NobI W H kd x r w) (hb : Below w.heap.size w w') : NobI W H kd x r w' :=
  ⟨h.low.trans (hb.mono h.low.size), (hb.block _ (Array.getElem?_eq_some_iff.1 h.act).1).trans h.act, (hb.block _ (Array.getElem?_eq_some_iff.1 h.st).1).trans h.st, (hb.block _ (Array.getElem?_eq_some_iff.1 h.arr).1).trans h.arr⟩
theorem NobI.dead {W : World} {H : Nat} {kd : Int} {x : St} {r : Fr} {w : World} (h : NobI W H kd x r w) : Dead (some ⟨H + 1, 0, none⟩) w := dead_unmade w (H + 1) ((row_cell h.st 0).trans rfl)
theorem one_zero : turnbuckleref20_One.f 100 zSt.meth zSt.sch zSt.host zSt.path zSt.qf zSt.qb zSt.stat zSt.sf zSt.sb zSt.asked zSt.came zSt.meth zSt.sch zSt.host zSt.path zSt.qf zSt.qb zSt.stat zSt.sf zSt.sb zSt.asked zSt.came = some true := by kernel_rfl
theorem rdZero (V : World) : Rd V zSt zFr :=
  have hf := Kd.R_reads' (Kd.R_nil k63 63 V 0 (fun _ => True))
  have hb := Kd.R_reads' (Kd.R_nil (Kd.int .u8) 5 V 0 (fun _ => True))
  ⟨hf.2.2, hf.2.1, hb.2.2, hb.2.1, hf.2.2, hf.2.1, hb.2.2, hb.2.1⟩
/-- The exchange that is handed in, and where its rows lie. -/
def nSt : St := ⟨⟨#[71, 69, 84]⟩, ⟨#[104, 116, 116, 112, 115]⟩, ⟨#[97]⟩, ⟨#[47]⟩, [⟨⟨#[99]⟩, ⟨#[100]⟩⟩], [], 200, [⟨⟨#[97]⟩, ⟨#[98]⟩⟩], [98, 111, 100, 121], 0, 0⟩
def nFr (g : Nat) : Fr := ⟨some ⟨g + 1 + 1 + 1, 0, none⟩, 1, none, 0, some ⟨g + 1 + 1, 0, none⟩, 1, some ⟨g + 1, 0, none⟩, 4⟩
theorem right_n : rightB nSt = true := rfl
theorem size_n : sizeI 100 nSt = 95 := by kernel_rfl
theorem m_n : mB 100 nSt (ofSt ⟨#[47]⟩) = true := by kernel_rfl
theorem f_slash : Fine 100 (ofSt ⟨#[47]⟩) := ⟨⟨_, vary_nil⟩, fun n => ⟨_, all_nil n⟩, ⟨by simp [ofSt], by simp [ofSt], by simp [ofSt], by simp [ofSt]⟩, ⟨71, by kernel_rfl, by omega, by omega⟩⟩
theorem all_one (n : ByteArray) : ∃ v, field_All.f 100 [⟨⟨#[99]⟩, ⟨#[100]⟩⟩] n = some v := by
  by_cases h : (⟨#[99]⟩ : ByteArray).toList = n.toList
  · exact ⟨[⟨#[100]⟩], by simp [field_All.f, field_All.l0, rd_T63, h, wrap64]⟩
  · have h' : ¬ ([99] : List UInt8) = n.toList := by simpa using h
    exact ⟨[], by simp [field_All.f, field_All.l0, rd_T63, h', wrap64]⟩
theorem f_n : Fine 100 nSt := ⟨⟨([], false), by kernel_rfl⟩, all_one, ⟨by simp [nSt], by simp [nSt], by simp [nSt], by simp [nSt]⟩, ⟨95, by kernel_rfl, by omega, by omega⟩⟩
theorem C_field {V : World} {g : Nat} {n v : ByteArray} (h0 : V.cell? ⟨g, 0, none⟩ = some (.string n)) (h1 : V.cell? ⟨g, 1, none⟩ = some (.string v)) : Kd.C k63 V (some ⟨g, 0, none⟩) 1 [⟨n, v⟩] :=
  ⟨rfl, by omega, fun _ => ⟨_, rfl, fun j p hj => by
    cases j with
    | zero =>
      obtain rfl : _ = p := by simpa using hj
      refine ⟨[.string n, .string v], rfl, ⟨[.string n], [.string v], rfl, rfl, rfl⟩, fun i u hu => ?_⟩
      match i, hu with
      | 0, hu => obtain rfl : _ = u := by simpa using hu
                 exact h0
      | 1, hu => obtain rfl : _ = u := by simpa using hu
                 exact h1
      | i + 2, hu => simp at hu
    | succ j => simp at hj⟩⟩
theorem C_bytes {V : World} {g : Nat} {l : List Int} (hl : l.length ≤ 100) (h : ∀ (i : Nat) (u : Int), l[i]? = some u → V.cell? ⟨g, i, none⟩ = some (.int .u8 u)) : Kd.C (Kd.int .u8) V (some ⟨g, 0, none⟩) l.length l :=
  ⟨rfl, by omega, fun _ => ⟨_, rfl, fun j p hj => ⟨[.int .u8 p], rfl, rfl, fun i u hu => by
    match i, hu with
    | 0, hu =>
      obtain rfl : _ = u := by simpa using hu
      have e : (⟨g, 0, none⟩ : Addr).add (j * 1 + 0) = ⟨g, j, none⟩ := by
        simp [Addr.add]
        intro h
        exact h.symm
      show V.cell? ((⟨g, 0, none⟩ : Addr).add (j * 1 + 0)) = _
      rw [e]
      exact h j p hj
    | i + 1, hu => simp at hu⟩⟩⟩
/-- The rows of what is handed in lie so. -/
structure NRows (g : Nat) (V : World) : Prop where
  body : V.heap[g + 1]? = some (.cells #[.int .u8 98, .int .u8 111, .int .u8 100, .int .u8 121] 5 (4, 5))
  sf : V.heap[g + 1 + 1]? = some (.cells #[.string ⟨#[97]⟩, .string ⟨#[98]⟩] 63 (0, 0))
  qf : V.heap[g + 1 + 1 + 1]? = some (.cells #[.string ⟨#[99]⟩, .string ⟨#[100]⟩] 63 (0, 0))
theorem cell_of {w : World} {b : Nat} {cs : Array Value} {t : Nat} {z : Nat × Nat} (h : w.heap[b]? = some (.cells cs t z)) (j : Nat) : w.cell? ⟨b, j, none⟩ = cs[j]? := by
  simp [World.cell?, h]
theorem nRd {g : Nat} {V : World} (h : NRows g V) : Rd V nSt (nFr g) := by
  have hb := Kd.R_reads' (Kd.R_nil (Kd.int .u8) 5 V 0 (fun _ => True))
  refine ⟨C_field ((cell_of h.qf 0).trans rfl) ((cell_of h.qf 1).trans rfl), by simp [nSt, nFr], hb.2.2, hb.2.1, C_field ((cell_of h.sf 0).trans rfl) ((cell_of h.sf 1).trans rfl), by simp [nSt, nFr], ?_, by simp [nSt, nFr]⟩
  refine C_bytes (l := [98, 111, 100, 121]) (by simp) (fun i u hu => ?_)
  rw [cell_of h.body]
  match i, hu with
  | 0, hu => obtain rfl : _ = u := by simpa using hu
             rfl
  | 1, hu => obtain rfl : _ = u := by simpa using hu
             rfl
  | 2, hu => obtain rfl : _ = u := by simpa using hu
             rfl
  | 3, hu => obtain rfl : _ = u := by simpa using hu
             rfl
  | i + 4, hu => simp at hu
/-- Three stores into rows of one's own, in whatever order: what they keep. -/
structure Wr (X : Nat) (cs : Array Value) (t gb : Nat) (zb : Nat × Nat) (gs gq : Nat) (A w : World) : Prop where
  x : w.heap[X]? = some (.cells cs t (0, 0))
  hold : Hold [gb, gs, gq] A w
  b : ∃ c : Array Value, w.heap[gb]? = some (.cells c 5 zb) ∧ 1 ≤ c.size
  s : ∃ c : Array Value, w.heap[gs]? = some (.cells c 63 (0, 0)) ∧ 2 ≤ c.size
  q : ∃ c : Array Value, w.heap[gq]? = some (.cells c 63 (0, 0)) ∧ 2 ≤ c.size
theorem row_set_ {W : World} {b : Nat} {cs : Array Value} {t : Nat} {z : Nat × Nat} (h : W.heap[b]? = some (.cells cs t z)) (j : Nat) (v : Value) : (W.setCell ⟨b, j, none⟩ v).heap[b]? = some (.cells (cs.setIfInBounds j v) t z) := by
  simp [World.setCell, Array.getElem?_modify, h]
theorem Hold.setIn {S : List Nat} {A B : World} (h : Hold S A B) {b j : Nat} (hb : b ∈ S) (v : Value) : Hold S A (B.setCell ⟨b, j, none⟩ v) :=
  ⟨h.os, h.tape, h.output, by simpa [World.setCell] using h.size, fun k hk hS => (row_other (show b ≠ k from fun e => hS (by rw [← e]; exact hb))).trans (h.block k hk hS)⟩
theorem row_any {w : World} {g g' : Nat} {t : Nat} {z : Nat × Nat} {n : Nat} (j : Nat) (v : Value) (h : ∃ c : Array Value, w.heap[g]? = some (.cells c t z) ∧ n ≤ c.size) : ∃ c : Array Value, (w.setCell ⟨g', j, none⟩ v).heap[g]? = some (.cells c t z) ∧ n ≤ c.size := by
  obtain ⟨c, hc, hn⟩ := h
  by_cases e : g' = g
  · subst e
    exact ⟨_, row_set_ hc j v, by simpa using hn⟩
  · exact ⟨c, (row_other e).trans hc, hn⟩
theorem Wr.set {X : Nat} {cs : Array Value} {t gb : Nat} {zb : Nat × Nat} {gs gq : Nat} {A w : World} (h : Wr X cs t gb zb gs gq A w) {g : Nat} (hg : g ∈ [gb, gs, gq]) (hX : g ≠ X) (j : Nat) (v : Value) : Wr X cs t gb zb gs gq A (w.setCell ⟨g, j, none⟩ v) :=
  ⟨(row_other hX).trans h.x, h.hold.setIn hg v, row_any j v h.b, row_any j v h.s, row_any j v h.q⟩
theorem cell_any {w : World} {g t : Nat} {z : Nat × Nat} {n : Nat} (h : ∃ c : Array Value, w.heap[g]? = some (.cells c t z) ∧ n ≤ c.size) {j : Nat} (hj : j < n) : ∃ u, w.cell? ⟨g, j, none⟩ = some u := by
  obtain ⟨c, hc, hn⟩ := h
  exact ⟨c[j], by rw [cell_of hc]; exact Array.getElem?_eq_getElem (by omega)⟩
theorem free_any {w : World} {g t : Nat} {n : Nat} (h : ∃ c : Array Value, w.heap[g]? = some (.cells c t (0, 0)) ∧ n ≤ c.size) (j : Nat) : w.frozen? ⟨g, j, none⟩ = false := by
  obtain ⟨c, hc, _⟩ := h
  exact row_free hc j
theorem free_body {w : World} {g t : Nat} {n : Nat} (h : ∃ c : Array Value, w.heap[g]? = some (.cells c t (4, 5)) ∧ n ≤ c.size) : w.frozen? ⟨g, 0, none⟩ = false := by
  obtain ⟨c, hc, _⟩ := h
  simp [World.frozen?, hc]
theorem Wr.drew {X : Nat} {cs : Array Value} {t gb : Nat} {zb : Nat × Nat} {gs gq : Nat} {A w : World} (h : Wr X cs t gb zb gs gq A w) : Wr X cs t gb zb gs gq A w.drew := ⟨h.x, h.hold.drew, h.b, h.s, h.q⟩
end Go.Proofs.YtbedkjmdckgbgaaDoor.P
/- StoreNobody: the law's walk. -/
namespace Go.Proofs.YtbedkjmdckgbgaaDoor.P
open Go.RowKit Go.Shelf Go.Proofs.YtbedkjmdckgbgaaDoorW.PrintWords
set_option maxHeartbeats 4000000 in
set_option maxRecDepth 100000 in
theorem nobody_calls (W : World) (kd : Int) (x : St) (r : Fr) : Calls Tryd.prog 5 #[.agg (actC kd x r)] W fun e w' => e = .returned (.bool true) ∧ Below W.heap.size W w' := by
  unfold actC
  go_enter Tryd.func5, Tryd.ntmps5
  go_wp2
  have hi0 : NobI W W.heap.size kd x r (((W.alloc (.cells #[.int .u8 kd, .string x.meth, .string x.sch, .string x.host, .string x.path, .slice r.a4 x.qf.length r.c4, .slice r.a5 x.qb.length r.c5, .int .i64 x.stat, .slice r.a7 x.sf.length r.c7, .slice r.a8 x.sb.length r.c8, .int .i64 x.asked, .int .i64 x.came] 38)).alloc (.cells #[.bool false, .int .i64 0, .int .i64 0, .pointer none, .pointer none] 56)).alloc (.cells #[.pointer none, .pointer (some ⟨W.heap.size + 1, 0, none⟩)] 23)) := by
    refine ⟨below_alloc (below_alloc (below_alloc (Below.refl _ _) _) _) _, ?_, ?_, ?_⟩
    · exact (Below.heap_alloc _ _ _ (by simp; omega)).trans ((Below.heap_alloc _ _ _ (by simp)).trans (World.alloc_heap_new W _))
    · have h := World.alloc_heap_new (W.alloc (.cells #[.int .u8 kd, .string x.meth, .string x.sch, .string x.host, .string x.path, .slice r.a4 x.qf.length r.c4, .slice r.a5 x.qb.length r.c5, .int .i64 x.stat, .slice r.a7 x.sf.length r.c7, .slice r.a8 x.sb.length r.c8, .int .i64 x.asked, .int .i64 x.came] 38)) (.cells #[.bool false, .int .i64 0, .int .i64 0, .pointer none, .pointer none] 56)
      rw [World.size_alloc] at h
      exact (Below.heap_alloc _ _ _ (by simp)).trans h
    · have h := World.alloc_heap_new ((W.alloc (.cells #[.int .u8 kd, .string x.meth, .string x.sch, .string x.host, .string x.path, .slice r.a4 x.qf.length r.c4, .slice r.a5 x.qb.length r.c5, .int .i64 x.stat, .slice r.a7 x.sf.length r.c7, .slice r.a8 x.sb.length r.c8, .int .i64 x.asked, .int .i64 x.came] 38)).alloc (.cells #[.bool false, .int .i64 0, .int .i64 0, .pointer none, .pointer none] 56)) (.cells #[.pointer none, .pointer (some ⟨W.heap.size + 1, 0, none⟩)] 23)
      rw [World.size_alloc, World.size_alloc] at h
      exact h
  have HI0 := Lib.hid hi0
  clear hi0
  go_loopw [17] (fun i wr => ∃ k : Nat, k ≤ 2 ∧ i = .int .i64 k ∧ Hid (NobI W W.heap.size kd x r wr)) (fun i _ => 2 - (intOf i).toNat)
  case atStart => exact ⟨0, by omega, rfl, HI0⟩
  case round =>
    clear HI0
    obtain ⟨k, hk, rfl, hi⟩ := hrel
    have hi := hi.out
    match k, hk with
    | 0, _ =>
      have a0 : wr.cell? ⟨W.heap.size, 0, none⟩ = some (.int .u8 kd) := (row_cell hi.act 0).trans rfl
      have a1 : wr.cell? ⟨W.heap.size, 1, none⟩ = some (.string x.meth) := (row_cell hi.act 1).trans rfl
      have a2 : wr.cell? ⟨W.heap.size, 2, none⟩ = some (.string x.sch) := (row_cell hi.act 2).trans rfl
      have a3 : wr.cell? ⟨W.heap.size, 3, none⟩ = some (.string x.host) := (row_cell hi.act 3).trans rfl
      have a4 : wr.cell? ⟨W.heap.size, 4, none⟩ = some (.string x.path) := (row_cell hi.act 4).trans rfl
      have a5 : wr.cell? ⟨W.heap.size, 5, none⟩ = some (.slice r.a4 x.qf.length r.c4) := (row_cell hi.act 5).trans rfl
      have a6 : wr.cell? ⟨W.heap.size, 6, none⟩ = some (.slice r.a5 x.qb.length r.c5) := (row_cell hi.act 6).trans rfl
      have a7 : wr.cell? ⟨W.heap.size, 7, none⟩ = some (.int .i64 x.stat) := (row_cell hi.act 7).trans rfl
      have a8 : wr.cell? ⟨W.heap.size, 8, none⟩ = some (.slice r.a7 x.sf.length r.c7) := (row_cell hi.act 8).trans rfl
      have a9 : wr.cell? ⟨W.heap.size, 9, none⟩ = some (.slice r.a8 x.sb.length r.c8) := (row_cell hi.act 9).trans rfl
      have a10 : wr.cell? ⟨W.heap.size, 10, none⟩ = some (.int .i64 x.asked) := (row_cell hi.act 10).trans rfl
      have a11 : wr.cell? ⟨W.heap.size, 11, none⟩ = some (.int .i64 x.came) := (row_cell hi.act 11).trans rfl
      have e0 : wr.cell? ⟨W.heap.size + 1 + 1, 0, none⟩ = some (.pointer none) := (row_cell hi.arr 0).trans rfl
      have e1 : wr.cell? ⟨W.heap.size + 1 + 1, 1, none⟩ = some (.pointer (some ⟨W.heap.size + 1, 0, none⟩)) := (row_cell hi.arr 1).trans rfl
      have HI0 := Lib.hid hi
      have HD := Lib.hid (show Dead none wr from dead_nil wr)
      clear hi
      go_wp2_with fail
      refine (get_dead _ _ HD.out x r).mono ?_
      rintro e w1 ⟨rfl, hb⟩
      have hb2 := below_alloc (Below.refl w1.heap.size w1) (.cells #[.string ⟨#[]⟩, .string ⟨#[]⟩, .string ⟨#[]⟩, .string ⟨#[]⟩, .slice none 0 0, .slice none 0 0, .int .i64 0, .slice none 0 0, .slice none 0 0, .int .i64 0, .int .i64 0] 39)
      have hz : Row39 (w1.alloc (.cells #[.string ⟨#[]⟩, .string ⟨#[]⟩, .string ⟨#[]⟩, .string ⟨#[]⟩, .slice none 0 0, .slice none 0 0, .int .i64 0, .slice none 0 0, .slice none 0 0, .int .i64 0, .int .i64 0] 39)) w1.heap.size zSt zFr := World.alloc_heap_new w1 _
      have HI1 := Lib.hid ((HI0.out.below hb).below hb2)
      have HD1 := Lib.hid ((HD.out.below hb).below hb2)
      have HZ1 := Lib.hid hz
      clear hb hb2 hz HI0 HD e0 e1 a0 a1 a2 a3 a4 a5 a6 a7 a8 a9 a10 a11
      dsimp only [stC, zSt, zFr, List.length_nil]
      have a0 : (w1.alloc (.cells #[.string ⟨#[]⟩, .string ⟨#[]⟩, .string ⟨#[]⟩, .string ⟨#[]⟩, .slice none 0 0, .slice none 0 0, .int .i64 0, .slice none 0 0, .slice none 0 0, .int .i64 0, .int .i64 0] 39)).cell? ⟨W.heap.size, 0, none⟩ = some (.int .u8 kd) := (row_cell HI1.out.act 0).trans rfl
      have a1 : (w1.alloc (.cells #[.string ⟨#[]⟩, .string ⟨#[]⟩, .string ⟨#[]⟩, .string ⟨#[]⟩, .slice none 0 0, .slice none 0 0, .int .i64 0, .slice none 0 0, .slice none 0 0, .int .i64 0, .int .i64 0] 39)).cell? ⟨W.heap.size, 1, none⟩ = some (.string x.meth) := (row_cell HI1.out.act 1).trans rfl
      have a2 : (w1.alloc (.cells #[.string ⟨#[]⟩, .string ⟨#[]⟩, .string ⟨#[]⟩, .string ⟨#[]⟩, .slice none 0 0, .slice none 0 0, .int .i64 0, .slice none 0 0, .slice none 0 0, .int .i64 0, .int .i64 0] 39)).cell? ⟨W.heap.size, 2, none⟩ = some (.string x.sch) := (row_cell HI1.out.act 2).trans rfl
      have a3 : (w1.alloc (.cells #[.string ⟨#[]⟩, .string ⟨#[]⟩, .string ⟨#[]⟩, .string ⟨#[]⟩, .slice none 0 0, .slice none 0 0, .int .i64 0, .slice none 0 0, .slice none 0 0, .int .i64 0, .int .i64 0] 39)).cell? ⟨W.heap.size, 3, none⟩ = some (.string x.host) := (row_cell HI1.out.act 3).trans rfl
      have a4 : (w1.alloc (.cells #[.string ⟨#[]⟩, .string ⟨#[]⟩, .string ⟨#[]⟩, .string ⟨#[]⟩, .slice none 0 0, .slice none 0 0, .int .i64 0, .slice none 0 0, .slice none 0 0, .int .i64 0, .int .i64 0] 39)).cell? ⟨W.heap.size, 4, none⟩ = some (.string x.path) := (row_cell HI1.out.act 4).trans rfl
      have a5 : (w1.alloc (.cells #[.string ⟨#[]⟩, .string ⟨#[]⟩, .string ⟨#[]⟩, .string ⟨#[]⟩, .slice none 0 0, .slice none 0 0, .int .i64 0, .slice none 0 0, .slice none 0 0, .int .i64 0, .int .i64 0] 39)).cell? ⟨W.heap.size, 5, none⟩ = some (.slice r.a4 x.qf.length r.c4) := (row_cell HI1.out.act 5).trans rfl
      have a6 : (w1.alloc (.cells #[.string ⟨#[]⟩, .string ⟨#[]⟩, .string ⟨#[]⟩, .string ⟨#[]⟩, .slice none 0 0, .slice none 0 0, .int .i64 0, .slice none 0 0, .slice none 0 0, .int .i64 0, .int .i64 0] 39)).cell? ⟨W.heap.size, 6, none⟩ = some (.slice r.a5 x.qb.length r.c5) := (row_cell HI1.out.act 6).trans rfl
      have a7 : (w1.alloc (.cells #[.string ⟨#[]⟩, .string ⟨#[]⟩, .string ⟨#[]⟩, .string ⟨#[]⟩, .slice none 0 0, .slice none 0 0, .int .i64 0, .slice none 0 0, .slice none 0 0, .int .i64 0, .int .i64 0] 39)).cell? ⟨W.heap.size, 7, none⟩ = some (.int .i64 x.stat) := (row_cell HI1.out.act 7).trans rfl
      have a8 : (w1.alloc (.cells #[.string ⟨#[]⟩, .string ⟨#[]⟩, .string ⟨#[]⟩, .string ⟨#[]⟩, .slice none 0 0, .slice none 0 0, .int .i64 0, .slice none 0 0, .slice none 0 0, .int .i64 0, .int .i64 0] 39)).cell? ⟨W.heap.size, 8, none⟩ = some (.slice r.a7 x.sf.length r.c7) := (row_cell HI1.out.act 8).trans rfl
      have a9 : (w1.alloc (.cells #[.string ⟨#[]⟩, .string ⟨#[]⟩, .string ⟨#[]⟩, .string ⟨#[]⟩, .slice none 0 0, .slice none 0 0, .int .i64 0, .slice none 0 0, .slice none 0 0, .int .i64 0, .int .i64 0] 39)).cell? ⟨W.heap.size, 9, none⟩ = some (.slice r.a8 x.sb.length r.c8) := (row_cell HI1.out.act 9).trans rfl
      have a10 : (w1.alloc (.cells #[.string ⟨#[]⟩, .string ⟨#[]⟩, .string ⟨#[]⟩, .string ⟨#[]⟩, .slice none 0 0, .slice none 0 0, .int .i64 0, .slice none 0 0, .slice none 0 0, .int .i64 0, .int .i64 0] 39)).cell? ⟨W.heap.size, 10, none⟩ = some (.int .i64 x.asked) := (row_cell HI1.out.act 10).trans rfl
      have a11 : (w1.alloc (.cells #[.string ⟨#[]⟩, .string ⟨#[]⟩, .string ⟨#[]⟩, .string ⟨#[]⟩, .slice none 0 0, .slice none 0 0, .int .i64 0, .slice none 0 0, .slice none 0 0, .int .i64 0, .int .i64 0] 39)).cell? ⟨W.heap.size, 11, none⟩ = some (.int .i64 x.came) := (row_cell HI1.out.act 11).trans rfl
      go_wp2_with fail
      refine (theirs_calls x r _).mono ?_
      rintro e w2 ⟨rfl, hb⟩
      have HI2 := Lib.hid (HI1.out.below hb)
      have HD2 := Lib.hid (HD1.out.below hb)
      have HZ2 := Lib.hid (show Row39 w2 w1.heap.size zSt zFr from (hb.block _ (Array.getElem?_eq_some_iff.1 HZ1.out).1).trans HZ1.out)
      clear hb HI1 HD1 HZ1 a0 a1 a2 a3 a4 a5 a6 a7 a8 a9 a10 a11
      go_wp2_with fail
      refine (put_dead _ _ HD2.out x r).mono ?_
      rintro e w3 ⟨rfl, hb⟩
      have HI3 := Lib.hid (HI2.out.below hb)
      have HD3 := Lib.hid (HD2.out.below hb)
      have HZ3 := Lib.hid (show Row39 w3 w1.heap.size zSt zFr from (hb.block _ (Array.getElem?_eq_some_iff.1 HZ2.out).1).trans HZ2.out)
      clear hb HI2 HD2 HZ2 
      have z0 : w3.cell? ⟨w1.heap.size, 0, none⟩ = some (.string ⟨#[]⟩) := (row_cell HZ3.out 0).trans rfl
      have z1 : w3.cell? ⟨w1.heap.size, 1, none⟩ = some (.string ⟨#[]⟩) := (row_cell HZ3.out 1).trans rfl
      have z2 : w3.cell? ⟨w1.heap.size, 2, none⟩ = some (.string ⟨#[]⟩) := (row_cell HZ3.out 2).trans rfl
      have z3 : w3.cell? ⟨w1.heap.size, 3, none⟩ = some (.string ⟨#[]⟩) := (row_cell HZ3.out 3).trans rfl
      have z4 : w3.cell? ⟨w1.heap.size, 4, none⟩ = some (.slice none 0 0) := (row_cell HZ3.out 4).trans rfl
      have z5 : w3.cell? ⟨w1.heap.size, 5, none⟩ = some (.slice none 0 0) := (row_cell HZ3.out 5).trans rfl
      have z6 : w3.cell? ⟨w1.heap.size, 6, none⟩ = some (.int .i64 0) := (row_cell HZ3.out 6).trans rfl
      have z7 : w3.cell? ⟨w1.heap.size, 7, none⟩ = some (.slice none 0 0) := (row_cell HZ3.out 7).trans rfl
      have z8 : w3.cell? ⟨w1.heap.size, 8, none⟩ = some (.slice none 0 0) := (row_cell HZ3.out 8).trans rfl
      have z9 : w3.cell? ⟨w1.heap.size, 9, none⟩ = some (.int .i64 0) := (row_cell HZ3.out 9).trans rfl
      have z10 : w3.cell? ⟨w1.heap.size, 10, none⟩ = some (.int .i64 0) := (row_cell HZ3.out 10).trans rfl
      go_wp2_with fail
      refine (ours_calls zSt zFr _).mono ?_
      rintro e w4 ⟨rfl, hb⟩
      have HI4 := Lib.hid (HI3.out.below hb)
      have HD4 := Lib.hid (HD3.out.below hb)
      have HZ4 := Lib.hid (show Row39 w4 w1.heap.size zSt zFr from (hb.block _ (Array.getElem?_eq_some_iff.1 HZ3.out).1).trans HZ3.out)
      clear hb HI3 HD3 HZ3 z0 z1 z2 z3 z4 z5 z6 z7 z8 z9 z10
      go_wp2_with fail
      refine (one_calls 100 zSt zSt zFr zFr true _ (rdZero _) (rdZero _) one_zero).mono ?_
      rintro e w5 ⟨rfl, hb⟩
      have HI5 := Lib.hid (HI4.out.below hb)
      have HD5 := Lib.hid (HD4.out.below hb)
      have HZ5 := Lib.hid (show Row39 w5 w1.heap.size zSt zFr from (hb.block _ (Array.getElem?_eq_some_iff.1 HZ4.out).1).trans HZ4.out)
      clear hb HI4 HD4 HZ4 
      go_wp2_with fail
      refine (purge_dead _ _ HD5.out _ _ _).mono ?_
      rintro e w6 ⟨rfl, hb⟩
      have HI6 := Lib.hid (HI5.out.below hb)
      have HD6 := Lib.hid (HD5.out.below hb)
      have HZ6 := Lib.hid (show Row39 w6 w1.heap.size zSt zFr from (hb.block _ (Array.getElem?_eq_some_iff.1 HZ5.out).1).trans HZ5.out)
      clear hb HI5 HD5 HZ5 
      go_wp2_with fail
      refine (prefix_dead _ _ HD6.out _ _ _).mono ?_
      rintro e w7 ⟨rfl, hb⟩
      have HI7 := Lib.hid (HI6.out.below hb)
      have HD7 := Lib.hid (HD6.out.below hb)
      have HZ7 := Lib.hid (show Row39 w7 w1.heap.size zSt zFr from (hb.block _ (Array.getElem?_eq_some_iff.1 HZ6.out).1).trans HZ6.out)
      clear hb HI6 HD6 HZ6 
      go_wp2_with fail
      refine (used_dead _ _ HD7.out).mono ?_
      rintro e w8 ⟨rfl, hb⟩
      have HI8 := Lib.hid (HI7.out.below hb)
      have HD8 := Lib.hid (HD7.out.below hb)
      have HZ8 := Lib.hid (show Row39 w8 w1.heap.size zSt zFr from (hb.block _ (Array.getElem?_eq_some_iff.1 HZ7.out).1).trans HZ7.out)
      clear hb HI7 HD7 HZ7 
      go_wp2_with fail
      refine (list_dead _ _ HD8.out).mono ?_
      rintro e w9 ⟨rfl, hb⟩
      have HI9 := Lib.hid (HI8.out.below hb)
      have HD9 := Lib.hid (HD8.out.below hb)
      have HZ9 := Lib.hid (show Row39 w9 w1.heap.size zSt zFr from (hb.block _ (Array.getElem?_eq_some_iff.1 HZ8.out).1).trans HZ8.out)
      clear hb HI8 HD8 HZ8 
      go_wp2
      go_roundw
      case measure => simp [intOf]
      case rel => exact ⟨1, by omega, rfl, HI9⟩
    | 1, _ =>
      have a0 : wr.cell? ⟨W.heap.size, 0, none⟩ = some (.int .u8 kd) := (row_cell hi.act 0).trans rfl
      have a1 : wr.cell? ⟨W.heap.size, 1, none⟩ = some (.string x.meth) := (row_cell hi.act 1).trans rfl
      have a2 : wr.cell? ⟨W.heap.size, 2, none⟩ = some (.string x.sch) := (row_cell hi.act 2).trans rfl
      have a3 : wr.cell? ⟨W.heap.size, 3, none⟩ = some (.string x.host) := (row_cell hi.act 3).trans rfl
      have a4 : wr.cell? ⟨W.heap.size, 4, none⟩ = some (.string x.path) := (row_cell hi.act 4).trans rfl
      have a5 : wr.cell? ⟨W.heap.size, 5, none⟩ = some (.slice r.a4 x.qf.length r.c4) := (row_cell hi.act 5).trans rfl
      have a6 : wr.cell? ⟨W.heap.size, 6, none⟩ = some (.slice r.a5 x.qb.length r.c5) := (row_cell hi.act 6).trans rfl
      have a7 : wr.cell? ⟨W.heap.size, 7, none⟩ = some (.int .i64 x.stat) := (row_cell hi.act 7).trans rfl
      have a8 : wr.cell? ⟨W.heap.size, 8, none⟩ = some (.slice r.a7 x.sf.length r.c7) := (row_cell hi.act 8).trans rfl
      have a9 : wr.cell? ⟨W.heap.size, 9, none⟩ = some (.slice r.a8 x.sb.length r.c8) := (row_cell hi.act 9).trans rfl
      have a10 : wr.cell? ⟨W.heap.size, 10, none⟩ = some (.int .i64 x.asked) := (row_cell hi.act 10).trans rfl
      have a11 : wr.cell? ⟨W.heap.size, 11, none⟩ = some (.int .i64 x.came) := (row_cell hi.act 11).trans rfl
      have e0 : wr.cell? ⟨W.heap.size + 1 + 1, 0, none⟩ = some (.pointer none) := (row_cell hi.arr 0).trans rfl
      have e1 : wr.cell? ⟨W.heap.size + 1 + 1, 1, none⟩ = some (.pointer (some ⟨W.heap.size + 1, 0, none⟩)) := (row_cell hi.arr 1).trans rfl
      have HI0 := Lib.hid hi
      have HD := Lib.hid (show Dead (some ⟨W.heap.size + 1, 0, none⟩) wr from hi.dead)
      clear hi
      go_wp2_with fail
      refine (get_dead _ _ HD.out x r).mono ?_
      rintro e w1 ⟨rfl, hb⟩
      have hb2 := below_alloc (Below.refl w1.heap.size w1) (.cells #[.string ⟨#[]⟩, .string ⟨#[]⟩, .string ⟨#[]⟩, .string ⟨#[]⟩, .slice none 0 0, .slice none 0 0, .int .i64 0, .slice none 0 0, .slice none 0 0, .int .i64 0, .int .i64 0] 39)
      have hz : Row39 (w1.alloc (.cells #[.string ⟨#[]⟩, .string ⟨#[]⟩, .string ⟨#[]⟩, .string ⟨#[]⟩, .slice none 0 0, .slice none 0 0, .int .i64 0, .slice none 0 0, .slice none 0 0, .int .i64 0, .int .i64 0] 39)) w1.heap.size zSt zFr := World.alloc_heap_new w1 _
      have HI1 := Lib.hid ((HI0.out.below hb).below hb2)
      have HD1 := Lib.hid ((HD.out.below hb).below hb2)
      have HZ1 := Lib.hid hz
      clear hb hb2 hz HI0 HD e0 e1 a0 a1 a2 a3 a4 a5 a6 a7 a8 a9 a10 a11
      dsimp only [stC, zSt, zFr, List.length_nil]
      have a0 : (w1.alloc (.cells #[.string ⟨#[]⟩, .string ⟨#[]⟩, .string ⟨#[]⟩, .string ⟨#[]⟩, .slice none 0 0, .slice none 0 0, .int .i64 0, .slice none 0 0, .slice none 0 0, .int .i64 0, .int .i64 0] 39)).cell? ⟨W.heap.size, 0, none⟩ = some (.int .u8 kd) := (row_cell HI1.out.act 0).trans rfl
      have a1 : (w1.alloc (.cells #[.string ⟨#[]⟩, .string ⟨#[]⟩, .string ⟨#[]⟩, .string ⟨#[]⟩, .slice none 0 0, .slice none 0 0, .int .i64 0, .slice none 0 0, .slice none 0 0, .int .i64 0, .int .i64 0] 39)).cell? ⟨W.heap.size, 1, none⟩ = some (.string x.meth) := (row_cell HI1.out.act 1).trans rfl
      have a2 : (w1.alloc (.cells #[.string ⟨#[]⟩, .string ⟨#[]⟩, .string ⟨#[]⟩, .string ⟨#[]⟩, .slice none 0 0, .slice none 0 0, .int .i64 0, .slice none 0 0, .slice none 0 0, .int .i64 0, .int .i64 0] 39)).cell? ⟨W.heap.size, 2, none⟩ = some (.string x.sch) := (row_cell HI1.out.act 2).trans rfl
      have a3 : (w1.alloc (.cells #[.string ⟨#[]⟩, .string ⟨#[]⟩, .string ⟨#[]⟩, .string ⟨#[]⟩, .slice none 0 0, .slice none 0 0, .int .i64 0, .slice none 0 0, .slice none 0 0, .int .i64 0, .int .i64 0] 39)).cell? ⟨W.heap.size, 3, none⟩ = some (.string x.host) := (row_cell HI1.out.act 3).trans rfl
      have a4 : (w1.alloc (.cells #[.string ⟨#[]⟩, .string ⟨#[]⟩, .string ⟨#[]⟩, .string ⟨#[]⟩, .slice none 0 0, .slice none 0 0, .int .i64 0, .slice none 0 0, .slice none 0 0, .int .i64 0, .int .i64 0] 39)).cell? ⟨W.heap.size, 4, none⟩ = some (.string x.path) := (row_cell HI1.out.act 4).trans rfl
      have a5 : (w1.alloc (.cells #[.string ⟨#[]⟩, .string ⟨#[]⟩, .string ⟨#[]⟩, .string ⟨#[]⟩, .slice none 0 0, .slice none 0 0, .int .i64 0, .slice none 0 0, .slice none 0 0, .int .i64 0, .int .i64 0] 39)).cell? ⟨W.heap.size, 5, none⟩ = some (.slice r.a4 x.qf.length r.c4) := (row_cell HI1.out.act 5).trans rfl
      have a6 : (w1.alloc (.cells #[.string ⟨#[]⟩, .string ⟨#[]⟩, .string ⟨#[]⟩, .string ⟨#[]⟩, .slice none 0 0, .slice none 0 0, .int .i64 0, .slice none 0 0, .slice none 0 0, .int .i64 0, .int .i64 0] 39)).cell? ⟨W.heap.size, 6, none⟩ = some (.slice r.a5 x.qb.length r.c5) := (row_cell HI1.out.act 6).trans rfl
      have a7 : (w1.alloc (.cells #[.string ⟨#[]⟩, .string ⟨#[]⟩, .string ⟨#[]⟩, .string ⟨#[]⟩, .slice none 0 0, .slice none 0 0, .int .i64 0, .slice none 0 0, .slice none 0 0, .int .i64 0, .int .i64 0] 39)).cell? ⟨W.heap.size, 7, none⟩ = some (.int .i64 x.stat) := (row_cell HI1.out.act 7).trans rfl
      have a8 : (w1.alloc (.cells #[.string ⟨#[]⟩, .string ⟨#[]⟩, .string ⟨#[]⟩, .string ⟨#[]⟩, .slice none 0 0, .slice none 0 0, .int .i64 0, .slice none 0 0, .slice none 0 0, .int .i64 0, .int .i64 0] 39)).cell? ⟨W.heap.size, 8, none⟩ = some (.slice r.a7 x.sf.length r.c7) := (row_cell HI1.out.act 8).trans rfl
      have a9 : (w1.alloc (.cells #[.string ⟨#[]⟩, .string ⟨#[]⟩, .string ⟨#[]⟩, .string ⟨#[]⟩, .slice none 0 0, .slice none 0 0, .int .i64 0, .slice none 0 0, .slice none 0 0, .int .i64 0, .int .i64 0] 39)).cell? ⟨W.heap.size, 9, none⟩ = some (.slice r.a8 x.sb.length r.c8) := (row_cell HI1.out.act 9).trans rfl
      have a10 : (w1.alloc (.cells #[.string ⟨#[]⟩, .string ⟨#[]⟩, .string ⟨#[]⟩, .string ⟨#[]⟩, .slice none 0 0, .slice none 0 0, .int .i64 0, .slice none 0 0, .slice none 0 0, .int .i64 0, .int .i64 0] 39)).cell? ⟨W.heap.size, 10, none⟩ = some (.int .i64 x.asked) := (row_cell HI1.out.act 10).trans rfl
      have a11 : (w1.alloc (.cells #[.string ⟨#[]⟩, .string ⟨#[]⟩, .string ⟨#[]⟩, .string ⟨#[]⟩, .slice none 0 0, .slice none 0 0, .int .i64 0, .slice none 0 0, .slice none 0 0, .int .i64 0, .int .i64 0] 39)).cell? ⟨W.heap.size, 11, none⟩ = some (.int .i64 x.came) := (row_cell HI1.out.act 11).trans rfl
      go_wp2_with fail
      refine (theirs_calls x r _).mono ?_
      rintro e w2 ⟨rfl, hb⟩
      have HI2 := Lib.hid (HI1.out.below hb)
      have HD2 := Lib.hid (HD1.out.below hb)
      have HZ2 := Lib.hid (show Row39 w2 w1.heap.size zSt zFr from (hb.block _ (Array.getElem?_eq_some_iff.1 HZ1.out).1).trans HZ1.out)
      clear hb HI1 HD1 HZ1 a0 a1 a2 a3 a4 a5 a6 a7 a8 a9 a10 a11
      go_wp2_with fail
      refine (put_dead _ _ HD2.out x r).mono ?_
      rintro e w3 ⟨rfl, hb⟩
      have HI3 := Lib.hid (HI2.out.below hb)
      have HD3 := Lib.hid (HD2.out.below hb)
      have HZ3 := Lib.hid (show Row39 w3 w1.heap.size zSt zFr from (hb.block _ (Array.getElem?_eq_some_iff.1 HZ2.out).1).trans HZ2.out)
      clear hb HI2 HD2 HZ2 
      have z0 : w3.cell? ⟨w1.heap.size, 0, none⟩ = some (.string ⟨#[]⟩) := (row_cell HZ3.out 0).trans rfl
      have z1 : w3.cell? ⟨w1.heap.size, 1, none⟩ = some (.string ⟨#[]⟩) := (row_cell HZ3.out 1).trans rfl
      have z2 : w3.cell? ⟨w1.heap.size, 2, none⟩ = some (.string ⟨#[]⟩) := (row_cell HZ3.out 2).trans rfl
      have z3 : w3.cell? ⟨w1.heap.size, 3, none⟩ = some (.string ⟨#[]⟩) := (row_cell HZ3.out 3).trans rfl
      have z4 : w3.cell? ⟨w1.heap.size, 4, none⟩ = some (.slice none 0 0) := (row_cell HZ3.out 4).trans rfl
      have z5 : w3.cell? ⟨w1.heap.size, 5, none⟩ = some (.slice none 0 0) := (row_cell HZ3.out 5).trans rfl
      have z6 : w3.cell? ⟨w1.heap.size, 6, none⟩ = some (.int .i64 0) := (row_cell HZ3.out 6).trans rfl
      have z7 : w3.cell? ⟨w1.heap.size, 7, none⟩ = some (.slice none 0 0) := (row_cell HZ3.out 7).trans rfl
      have z8 : w3.cell? ⟨w1.heap.size, 8, none⟩ = some (.slice none 0 0) := (row_cell HZ3.out 8).trans rfl
      have z9 : w3.cell? ⟨w1.heap.size, 9, none⟩ = some (.int .i64 0) := (row_cell HZ3.out 9).trans rfl
      have z10 : w3.cell? ⟨w1.heap.size, 10, none⟩ = some (.int .i64 0) := (row_cell HZ3.out 10).trans rfl
      go_wp2_with fail
      refine (ours_calls zSt zFr _).mono ?_
      rintro e w4 ⟨rfl, hb⟩
      have HI4 := Lib.hid (HI3.out.below hb)
      have HD4 := Lib.hid (HD3.out.below hb)
      have HZ4 := Lib.hid (show Row39 w4 w1.heap.size zSt zFr from (hb.block _ (Array.getElem?_eq_some_iff.1 HZ3.out).1).trans HZ3.out)
      clear hb HI3 HD3 HZ3 z0 z1 z2 z3 z4 z5 z6 z7 z8 z9 z10
      go_wp2_with fail
      refine (one_calls 100 zSt zSt zFr zFr true _ (rdZero _) (rdZero _) one_zero).mono ?_
      rintro e w5 ⟨rfl, hb⟩
      have HI5 := Lib.hid (HI4.out.below hb)
      have HD5 := Lib.hid (HD4.out.below hb)
      have HZ5 := Lib.hid (show Row39 w5 w1.heap.size zSt zFr from (hb.block _ (Array.getElem?_eq_some_iff.1 HZ4.out).1).trans HZ4.out)
      clear hb HI4 HD4 HZ4 
      go_wp2_with fail
      refine (purge_dead _ _ HD5.out _ _ _).mono ?_
      rintro e w6 ⟨rfl, hb⟩
      have HI6 := Lib.hid (HI5.out.below hb)
      have HD6 := Lib.hid (HD5.out.below hb)
      have HZ6 := Lib.hid (show Row39 w6 w1.heap.size zSt zFr from (hb.block _ (Array.getElem?_eq_some_iff.1 HZ5.out).1).trans HZ5.out)
      clear hb HI5 HD5 HZ5 
      go_wp2_with fail
      refine (prefix_dead _ _ HD6.out _ _ _).mono ?_
      rintro e w7 ⟨rfl, hb⟩
      have HI7 := Lib.hid (HI6.out.below hb)
      have HD7 := Lib.hid (HD6.out.below hb)
      have HZ7 := Lib.hid (show Row39 w7 w1.heap.size zSt zFr from (hb.block _ (Array.getElem?_eq_some_iff.1 HZ6.out).1).trans HZ6.out)
      clear hb HI6 HD6 HZ6 
      go_wp2_with fail
      refine (used_dead _ _ HD7.out).mono ?_
      rintro e w8 ⟨rfl, hb⟩
      have HI8 := Lib.hid (HI7.out.below hb)
      have HD8 := Lib.hid (HD7.out.below hb)
      have HZ8 := Lib.hid (show Row39 w8 w1.heap.size zSt zFr from (hb.block _ (Array.getElem?_eq_some_iff.1 HZ7.out).1).trans HZ7.out)
      clear hb HI7 HD7 HZ7 
      go_wp2_with fail
      refine (list_dead _ _ HD8.out).mono ?_
      rintro e w9 ⟨rfl, hb⟩
      have HI9 := Lib.hid (HI8.out.below hb)
      have HD9 := Lib.hid (HD8.out.below hb)
      have HZ9 := Lib.hid (show Row39 w9 w1.heap.size zSt zFr from (hb.block _ (Array.getElem?_eq_some_iff.1 HZ8.out).1).trans HZ8.out)
      clear hb HI8 HD8 HZ8 
      go_wp2
      go_roundw
      case measure => simp [intOf]
      case rel => exact ⟨2, by omega, rfl, HI9⟩
    | 2, _ =>
      have HI0 := Lib.hid hi
      clear hi
      go_wp2_with fail
      refine (new_calls wr 65536 (by omega) (by omega)).mono ?_
      rintro e w1 ⟨rfl, hw⟩
      have hb1 : Below W.heap.size W w1 := by rw [hw]; exact below_alloc HI0.out.low _
      have hs1 : StoreAt w1 wr.heap.size 65536 0 none none := by rw [hw]; exact World.alloc_heap_new wr _
      have HB1 := Lib.hid hb1
      have HS1 := Lib.hid hs1
      have HZ1 := Lib.hid (show wr.heap.size < w1.heap.size by rw [hw]; simp)
      clear hb1 hs1 hw
      go_wp2_with fail
      refine (of_calls ⟨#[47]⟩ _).mono ?_
      rintro e w2 ⟨rfl, hb⟩
      have HB2 := Lib.hid (HB1.out.trans (hb.mono HB1.out.size))
      have HS2 := Lib.hid ((hb.block _ HZ1.out).trans HS1.out)
      have HZ2 := Lib.hid (Nat.lt_of_lt_of_le HZ1.out hb.size)
      clear hb HB1 HS1 HZ1
      dsimp only [stC, ofSt, zeroFr, List.length_nil]
      have hcv : (convert 30 30 (.slice (some ⟨w2.heap.size + 1, 0, none⟩) 4 4)).run Tryd.prog ((w2.alloc (.cells #[.string ⟨#[71, 69, 84]⟩, .string ⟨#[104, 116, 116, 112, 115]⟩, .string ⟨#[97]⟩, .string ⟨#[47]⟩, .slice none 0 0, .slice none 0 0, .int .i64 200, .slice none 0 0, .slice none 0 0, .int .i64 0, .int .i64 0] 36)).alloc (.cells #[.int .u8 98, .int .u8 111, .int .u8 100, .int .u8 121] 5)) = .ok (.slice (some ⟨w2.heap.size + 1, 0, none⟩) 4 4) ((w2.alloc (.cells #[.string ⟨#[71, 69, 84]⟩, .string ⟨#[104, 116, 116, 112, 115]⟩, .string ⟨#[97]⟩, .string ⟨#[47]⟩, .slice none 0 0, .slice none 0 0, .int .i64 200, .slice none 0 0, .slice none 0 0, .int .i64 0, .int .i64 0] 36)).alloc (.cells #[.int .u8 98, .int .u8 111, .int .u8 100, .int .u8 121] 5 (4, 5))) := by
        have h := Lib.run_convert_bytes_const (P := Tryd.prog) (w2.alloc (.cells #[.string ⟨#[71, 69, 84]⟩, .string ⟨#[104, 116, 116, 112, 115]⟩, .string ⟨#[97]⟩, .string ⟨#[47]⟩, .slice none 0 0, .slice none 0 0, .int .i64 200, .slice none 0 0, .slice none 0 0, .int .i64 0, .int .i64 0] 36)) 30 5 #[.int .u8 98, .int .u8 111, .int .u8 100, .int .u8 121] 4 4 Tryd.underlying30 Tryd.underlying5
        rw [World.size_alloc] at h
        exact h
      go_wp2_with fail
      have hwx : ∃ W5, ((((w2.alloc (.cells #[.string ⟨#[71, 69, 84]⟩, .string ⟨#[104, 116, 116, 112, 115]⟩, .string ⟨#[97]⟩, .string ⟨#[47]⟩, .slice (some ⟨w2.heap.size + 1 + 1 + 1, 0, none⟩) 1 1, .slice none 0 0, .int .i64 200, .slice (some ⟨w2.heap.size + 1 + 1, 0, none⟩) 1 1, .slice (some ⟨w2.heap.size + 1, 0, none⟩) 4 4, .int .i64 0, .int .i64 0] 36)).alloc (.cells #[.int .u8 98, .int .u8 111, .int .u8 100, .int .u8 121] 5 (4, 5))).alloc (.cells #[.string ⟨#[97]⟩, .string ⟨#[98]⟩] 63)).alloc (.cells #[.string ⟨#[99]⟩, .string ⟨#[100]⟩] 63)) = W5 := ⟨_, rfl⟩
      obtain ⟨W5, hW5⟩ := hwx
      have hX5 : W5.heap[w2.heap.size]? = some (.cells (stC nSt (nFr w2.heap.size)) 36 (0, 0)) := by
        rw [← hW5]
        exact (Below.heap_alloc _ _ _ (by simp <;> omega)).trans ((Below.heap_alloc _ _ _ (by simp <;> omega)).trans ((Below.heap_alloc _ _ _ (by simp)).trans (World.alloc_heap_new w2 _)))
      have hN5 : NRows w2.heap.size W5 := by
        rw [← hW5]
        refine ⟨?_, ?_, ?_⟩
        · refine (Below.heap_alloc _ _ _ (by simp <;> omega)).trans ((Below.heap_alloc _ _ _ (by simp)).trans ?_)
          have h := World.alloc_heap_new (w2.alloc (.cells #[.string ⟨#[71, 69, 84]⟩, .string ⟨#[104, 116, 116, 112, 115]⟩, .string ⟨#[97]⟩, .string ⟨#[47]⟩, .slice (some ⟨w2.heap.size + 1 + 1 + 1, 0, none⟩) 1 1, .slice none 0 0, .int .i64 200, .slice (some ⟨w2.heap.size + 1 + 1, 0, none⟩) 1 1, .slice (some ⟨w2.heap.size + 1, 0, none⟩) 4 4, .int .i64 0, .int .i64 0] 36)) (.cells #[.int .u8 98, .int .u8 111, .int .u8 100, .int .u8 121] 5 (4, 5))
          rw [World.size_alloc] at h
          exact h
        · refine (Below.heap_alloc _ _ _ (by simp)).trans ?_
          have h := World.alloc_heap_new ((w2.alloc (.cells #[.string ⟨#[71, 69, 84]⟩, .string ⟨#[104, 116, 116, 112, 115]⟩, .string ⟨#[97]⟩, .string ⟨#[47]⟩, .slice (some ⟨w2.heap.size + 1 + 1 + 1, 0, none⟩) 1 1, .slice none 0 0, .int .i64 200, .slice (some ⟨w2.heap.size + 1 + 1, 0, none⟩) 1 1, .slice (some ⟨w2.heap.size + 1, 0, none⟩) 4 4, .int .i64 0, .int .i64 0] 36)).alloc (.cells #[.int .u8 98, .int .u8 111, .int .u8 100, .int .u8 121] 5 (4, 5))) (.cells #[.string ⟨#[97]⟩, .string ⟨#[98]⟩] 63)
          rw [World.size_alloc, World.size_alloc] at h
          exact h
        · have h := World.alloc_heap_new (((w2.alloc (.cells #[.string ⟨#[71, 69, 84]⟩, .string ⟨#[104, 116, 116, 112, 115]⟩, .string ⟨#[97]⟩, .string ⟨#[47]⟩, .slice (some ⟨w2.heap.size + 1 + 1 + 1, 0, none⟩) 1 1, .slice none 0 0, .int .i64 200, .slice (some ⟨w2.heap.size + 1 + 1, 0, none⟩) 1 1, .slice (some ⟨w2.heap.size + 1, 0, none⟩) 4 4, .int .i64 0, .int .i64 0] 36)).alloc (.cells #[.int .u8 98, .int .u8 111, .int .u8 100, .int .u8 121] 5 (4, 5))).alloc (.cells #[.string ⟨#[97]⟩, .string ⟨#[98]⟩] 63)) (.cells #[.string ⟨#[99]⟩, .string ⟨#[100]⟩] 63)
          rw [World.size_alloc, World.size_alloc, World.size_alloc] at h
          exact h
      have hb5 : Below w2.heap.size w2 W5 := by rw [← hW5]; exact below_alloc (below_alloc (below_alloc (below_alloc (Below.refl _ _) _) _) _) _
      rw [hW5]
      have HX5 := Lib.hid hX5
      have HN5 := Lib.hid hN5
      have HB5 := Lib.hid (HB2.out.trans (hb5.mono HB2.out.size))
      have HS5 := Lib.hid ((hb5.block _ HZ2.out).trans HS2.out)
      clear hW5 hX5 hN5 hb5 hcv HS2 HB2
      generalize hg : w2.heap.size = g at *
      clear hg w2
      refine (theirs_calls nSt (nFr g) _).mono ?_
      rintro e w6 ⟨rfl, hb⟩
      have HX6 := Lib.hid ((hb.block _ (Array.getElem?_eq_some_iff.1 HX5.out).1).trans HX5.out)
      have HN6 := Lib.hid (show NRows g w6 from ⟨(hb.block _ (Array.getElem?_eq_some_iff.1 HN5.out.body).1).trans HN5.out.body, (hb.block _ (Array.getElem?_eq_some_iff.1 HN5.out.sf).1).trans HN5.out.sf, (hb.block _ (Array.getElem?_eq_some_iff.1 HN5.out.qf).1).trans HN5.out.qf⟩)
      have HB6 := Lib.hid (HB5.out.trans (hb.mono HB5.out.size))
      have HS6 := Lib.hid ((hb.block _ (Array.getElem?_eq_some_iff.1 HS5.out).1).trans HS5.out)
      clear hb HX5 HN5 HB5 HS5
      have hsW : W.heap.size ≤ wr.heap.size := HI0.out.low.size
      have hI6 : Inv [wr.heap.size, g + 1, g + 1 + 1, g + 1 + 1 + 1] w6 wr.heap.size 65536 [] := inv_new HS6.out (.head _) (fun j hj => by
        have h1 := (Array.getElem?_eq_some_iff.1 HN6.out.qf).1
        have h2 := (Array.getElem?_eq_some_iff.1 HS6.out).1
        simp only [List.mem_cons, List.mem_nil_iff, or_false] at hj
        rcases hj with rfl | rfl | rfl | rfl <;> omega) (by omega) (by omega)
      have HI6 := Lib.hid hI6
      have HSG := Lib.hid (show wr.heap.size < g from HZ2.out)
      clear hI6
      go_wp2_with fail
      refine (put_calls 100 _ w6 wr.heap.size 65536 [] HI6.out (by simp) nSt (nFr g) f_n (fun V hv => nRd ?_)).mono ?_
      · have hne : ∀ j, g < j → j ∉ own1 wr.heap.size ([] : List Lk) := fun j hj hm => by
          have := HSG.out
          simp only [own1, List.map_nil, List.mem_cons, List.mem_nil_iff, or_false] at hm
          omega
        exact ⟨(hv.block _ (Array.getElem?_eq_some_iff.1 HN6.out.body).1 (hne _ (by omega))).trans HN6.out.body, (hv.block _ (Array.getElem?_eq_some_iff.1 HN6.out.sf).1 (hne _ (by omega))).trans HN6.out.sf, (hv.block _ (Array.getElem?_eq_some_iff.1 HN6.out.qf).1 (hne _ (by omega))).trans HN6.out.qf⟩
      intro e w7 hp
      unfold PutPost at hp
      rw [if_neg (by rw [right_n]; simp), if_neg (by rw [size_n]; omega)] at hp
      obtain ⟨b, r7, n, rfl, hbw, hn, hI7, hh7, _, _⟩ := hp
      obtain rfl : n = 0 := by simpa [rest] using hn
      have HI7 := Lib.hid (show Inv (b :: [wr.heap.size, g + 1, g + 1 + 1, g + 1 + 1 + 1]) w7 wr.heap.size 65536 [⟨b, nSt, r7, sizeI 100 nSt⟩] from by simpa [rest] using hI7)
      have hne : ∀ j, g ≤ j → j ∉ own1 wr.heap.size ([] : List Lk) := fun j hj hm => by
        have := HSG.out
        simp only [own1, List.map_nil, List.mem_cons, List.mem_nil_iff, or_false] at hm
        omega
      have HX7 := Lib.hid ((hh7.block _ (Array.getElem?_eq_some_iff.1 HX6.out).1 (hne _ (by omega))).trans HX6.out)
      have HN7 := Lib.hid (show NRows g w7 from ⟨(hh7.block _ (Array.getElem?_eq_some_iff.1 HN6.out.body).1 (hne _ (by omega))).trans HN6.out.body, (hh7.block _ (Array.getElem?_eq_some_iff.1 HN6.out.sf).1 (hne _ (by omega))).trans HN6.out.sf, (hh7.block _ (Array.getElem?_eq_some_iff.1 HN6.out.qf).1 (hne _ (by omega))).trans HN6.out.qf⟩)
      have HB7 := Lib.hid (HB6.out.trans (hh7.below (n := W.heap.size) HB6.out.size (fun j hj => by
        simp only [own1, List.map_nil, List.mem_cons, List.mem_nil_iff, or_false] at hj
        omega)))
      have HBW := Lib.hid (show w6.heap.size ≤ b from hbw)
      have HG6 := Lib.hid (show g + 1 + 1 + 1 < w6.heap.size from (Array.getElem?_eq_some_iff.1 HN6.out.qf).1)
      clear hn hI7 hh7 hne hbw HX6 HN6 HB6 HS6 HI6
      go_wp2_with fail
      have hi16 : Wr g (stC nSt (nFr g)) 36 (g + 1) (4, 5) (g + 1 + 1) (g + 1 + 1 + 1) w7 w7 := ⟨HX7.out, Hold.refl _ _, ⟨_, HN7.out.body, by simp⟩, ⟨_, HN7.out.sf, by simp⟩, ⟨_, HN7.out.qf, by simp⟩⟩
      refine (wpIn_wide (n := 0)).1 ?_
      refine wpIn_region_put (by kernel_rfl) (fun _ => trivial) [94, 95, 96, 97, 98, 99, 100, 101, 102, 103, 104, 105, 106, 107] [(94, .pointer (some ⟨g, 6, none⟩)), (95, .pointer (some ⟨g, 8, none⟩)), (96, .slice (some ⟨g + 1, 0, none⟩) 4 4), (97, .pointer (some ⟨g, 6, none⟩)), (98, .pointer (some ⟨g, 7, none⟩)), (99, .slice (some ⟨g + 1 + 1, 0, none⟩) 1 1), (100, .pointer (some ⟨g, 0, none⟩)), (101, .pointer (some ⟨g, 4, none⟩)), (102, .slice (some ⟨g + 1 + 1 + 1, 0, none⟩) 1 1), (103, .pointer (some ⟨g + 1, 0, none⟩)), (104, .pointer (some ⟨g + 1 + 1, 0, none⟩)), (105, .pointer (some ⟨g + 1 + 1, 1, none⟩)), (106, .pointer (some ⟨g + 1 + 1 + 1, 0, none⟩)), (107, .pointer (some ⟨g + 1 + 1 + 1, 1, none⟩))] ?gfin (Wr g (stC nSt (nFr g)) 36 (g + 1) (4, 5) (g + 1 + 1) (g + 1 + 1 + 1) w7) (by kernel_rfl) (by kernel_rfl) ?ghe ?ghfin hi16.drew ?gops ?grest
      case ghe => rfl
      case ghfin =>
        simp only [putAll, List.foldl, Act.put, List.setIfInBounds_toArray, List.set]
        rfl
      case gops =>
        clear hi16
        refine ⟨?_, ?_, ?_, ?_, ?_, ?_, ?_, ?_, ?_, ?_, ?_, ?_, ?_, ?_, ?_, ?_, ?_, trivial⟩
        all_goals
          refine det_go (by rfl) ?_
          intro w8 hw
          have c4 : w8.cell? ⟨g, 4, none⟩ = some (.slice (some ⟨g + 1 + 1 + 1, 0, none⟩) 1 1) := (row_cell hw.x 4).trans rfl
          have c7 : w8.cell? ⟨g, 7, none⟩ = some (.slice (some ⟨g + 1 + 1, 0, none⟩) 1 1) := (row_cell hw.x 7).trans rfl
          have c8 : w8.cell? ⟨g, 8, none⟩ = some (.slice (some ⟨g + 1, 0, none⟩) 4 4) := (row_cell hw.x 8).trans rfl
          obtain ⟨ub, cb⟩ := cell_any hw.b (j := 0) (by omega)
          obtain ⟨us, cs⟩ := cell_any hw.s (j := 1) (by omega)
          obtain ⟨uq, cq⟩ := cell_any hw.q (j := 1) (by omega)
          have fb := free_body hw.b
          have fs := free_any hw.s 1
          have fq := free_any hw.q 1
          have HW := Lib.hid hw
          clear hw
          go_simp
          first
            | exact HW.out
            | exact HW.out.set (by simp) (by omega) _ _
      case grest =>
        intro w8 hw
        have hown7 : ∀ j ∈ [g + 1, g + 1 + 1, g + 1 + 1 + 1], j ∉ own1 wr.heap.size [(⟨b, nSt, r7, sizeI 100 nSt⟩ : Lk)] := fun j hj hm => by
          have h1 := HSG.out
          have h2 := HBW.out
          have h3 := HG6.out
          simp only [own1, List.map_cons, List.map_nil, List.mem_cons, List.mem_nil_iff, or_false] at hm hj
          omega
        have HI8 := Lib.hid (HI7.out.others hw.hold (fun j hj => by
          simp only [List.mem_cons, List.mem_nil_iff, or_false] at hj ⊢
          omega) hown7)
        have HB8 := Lib.hid (HB7.out.trans (hw.hold.below (n := W.heap.size) HB7.out.size (fun j hj => by
          have h1 := HSG.out
          simp only [List.mem_cons, List.mem_nil_iff, or_false] at hj
          omega)))
        clear hw hown7 HI7 HB7 hi16
        have hfld : ∀ (p : ByteArray) (w : World), (Instr.field 36 (.agg #[.string ⟨#[71, 69, 84]⟩, .string ⟨#[104, 116, 116, 112, 115]⟩, .string ⟨#[97]⟩, .string p, .slice none 0 0, .slice none 0 0, .int .i64 200, .slice none 0 0, .slice none 0 0, .int .i64 0, .int .i64 0]) 0).run Tryd.prog w = .ok (.agg #[.string ⟨#[71, 69, 84]⟩, .string ⟨#[104, 116, 116, 112, 115]⟩, .string ⟨#[97]⟩, .string p, .slice none 0 0, .slice none 0 0]) w := fun _ _ => by kernel_rfl
        go_wp2_with fail
        refine (of_calls ⟨#[47]⟩ _).mono ?_
        rintro e w9 ⟨rfl, hb⟩
        have HI9 := Lib.hid (HI8.out.below hb)
        have HB9 := Lib.hid (HB8.out.trans (hb.mono HB8.out.size))
        clear hb HI8 HB8
        dsimp only [stC, ofSt, zeroFr, List.length_nil]
        go_wp2_with fail
        clear hfld
        refine (get_calls 100 _ w9 wr.heap.size 65536 _ HI9.out (fun l hl => by rw [List.mem_singleton.1 hl]; exact f_n) (ofSt ⟨#[47]⟩) zeroFr f_slash (fun V _ => rdOf _ V)).mono ?_
        intro e w10 hp
        unfold GetPost at hp
        have hbest : bestOf (fun l => mB 100 l.x (ofSt ⟨#[47]⟩)) [(⟨b, nSt, r7, sizeI 100 nSt⟩ : Lk)] = some ⟨b, nSt, r7, sizeI 100 nSt⟩ := by
          have h : mB 100 (⟨b, nSt, r7, sizeI 100 nSt⟩ : Lk).x (ofSt ⟨#[47]⟩) = true := m_n
          unfold bestOf
          rw [List.foldl_cons, pick_none (m := fun l => mB 100 l.x (ofSt ⟨#[47]⟩)) h rfl]
          rfl
        rw [hbest] at hp
        obtain ⟨⟨a4, c4, a5, c5, a7, c7, a8, c8⟩, i, hi0, rfl, hro, hI10, hh10⟩ := hp
        have hi0' : i = 0 := by
          cases i with
          | zero => rfl
          | succ i => simp at hi0
        subst hi0'
        obtain ⟨g8, k8, cur8, e8, hb8, hh8, hz8⟩ := R_bytes hro.h8 (by simp [nSt])
        injection e8 with e8a _ e8c
        have e8a' : a8 = some ⟨g8, 0, none⟩ := e8a
        have e8c' : c8 = k8 := e8c
        subst e8a' e8c'
        have h7 : Kd.R k63 63 w10 w9.heap.size (fun _ => True) (.slice a7 1 c7) [⟨⟨#[97]⟩, ⟨#[98]⟩⟩] := hro.h7
        obtain ⟨g7, k7, cur7, e7, hb7, hh7, hz7, _, _⟩ := R_field h7
        injection e7 with e7a _ e7c
        subst e7a e7c
        have h4 : Kd.R k63 63 w10 w9.heap.size (fun _ => True) (.slice a4 1 c4) [⟨⟨#[99]⟩, ⟨#[100]⟩⟩] := hro.h4
        obtain ⟨g4, k4, cur4, e4, hb4, hh4, hz4, _, _⟩ := R_field h4
        injection e4 with e4a _ e4c
        subst e4a e4c
        have hb11 := below_alloc (Below.refl w10.heap.size w10) (.cells #[.string ⟨#[71, 69, 84]⟩, .string ⟨#[104, 116, 116, 112, 115]⟩, .string ⟨#[97]⟩, .string ⟨#[47]⟩, .slice (some ⟨g4, 0, none⟩) 1 c4, .slice a5 0 c5, .int .i64 200, .slice (some ⟨g7, 0, none⟩) 1 c7, .slice (some ⟨g8, 0, none⟩) 4 c8, .int .i64 0, .int .i64 0] 39)
        have hcs : (convert 30 9 (.slice (some ⟨g8, 0, none⟩) 4 c8)).run Tryd.prog (w10.alloc (.cells #[.string ⟨#[71, 69, 84]⟩, .string ⟨#[104, 116, 116, 112, 115]⟩, .string ⟨#[97]⟩, .string ⟨#[47]⟩, .slice (some ⟨g4, 0, none⟩) 1 c4, .slice a5 0 c5, .int .i64 200, .slice (some ⟨g7, 0, none⟩) 1 c7, .slice (some ⟨g8, 0, none⟩) 4 c8, .int .i64 0, .int .i64 0] 39)) = .ok (.string ⟨#[98, 111, 100, 121]⟩) (w10.alloc (.cells #[.string ⟨#[71, 69, 84]⟩, .string ⟨#[104, 116, 116, 112, 115]⟩, .string ⟨#[97]⟩, .string ⟨#[47]⟩, .slice (some ⟨g4, 0, none⟩) 1 c4, .slice a5 0 c5, .int .i64 200, .slice (some ⟨g7, 0, none⟩) 1 c7, .slice (some ⟨g8, 0, none⟩) 4 c8, .int .i64 0, .int .i64 0] 39)) := by
          have h := Kd.C_string (c := c8) Tryd.underlying30 Tryd.underlying5 Tryd.underlying9 (Kd.R_reads' (Kd.R_below hro.h8 hb11)).2.2
          exact h
        have HRO := Lib.hid hro
        have HI10 := Lib.hid hI10
        have HH10 := Lib.hid hh10
        have HH8 := Lib.hid hh8
        have HH7 := Lib.hid hh7
        have HH4 := Lib.hid hh4
        clear hro hI10 hh10 hh8 hh7 hh4 h7 h4 hbest hi0
        dsimp only [stC, nSt, List.length_nil, List.length_cons]
        go_wp2_with fail
        have hlt8 : g8 < w10.heap.size := (Array.getElem?_eq_some_iff.1 HH8.out).1
        have hlt7 : g7 < w10.heap.size := (Array.getElem?_eq_some_iff.1 HH7.out).1
        have hlt4 : g4 < w10.heap.size := (Array.getElem?_eq_some_iff.1 HH4.out).1
        have hi20 : (Wr w10.heap.size #[.string ⟨#[71, 69, 84]⟩, .string ⟨#[104, 116, 116, 112, 115]⟩, .string ⟨#[97]⟩, .string ⟨#[47]⟩, .slice (some ⟨g4, 0, none⟩) 1 c4, .slice a5 0 c5, .int .i64 200, .slice (some ⟨g7, 0, none⟩) 1 c7, .slice (some ⟨g8, 0, none⟩) 4 c8, .int .i64 0, .int .i64 0] 39 g8 (0, 0) g7 g4 (w10.alloc (.cells #[.string ⟨#[71, 69, 84]⟩, .string ⟨#[104, 116, 116, 112, 115]⟩, .string ⟨#[97]⟩, .string ⟨#[47]⟩, .slice (some ⟨g4, 0, none⟩) 1 c4, .slice a5 0 c5, .int .i64 200, .slice (some ⟨g7, 0, none⟩) 1 c7, .slice (some ⟨g8, 0, none⟩) 4 c8, .int .i64 0, .int .i64 0] 39))) (w10.alloc (.cells #[.string ⟨#[71, 69, 84]⟩, .string ⟨#[104, 116, 116, 112, 115]⟩, .string ⟨#[97]⟩, .string ⟨#[47]⟩, .slice (some ⟨g4, 0, none⟩) 1 c4, .slice a5 0 c5, .int .i64 200, .slice (some ⟨g7, 0, none⟩) 1 c7, .slice (some ⟨g8, 0, none⟩) 4 c8, .int .i64 0, .int .i64 0] 39)) := ⟨World.alloc_heap_new w10 _, Hold.refl _ _, ⟨_, (hb11.block _ hlt8).trans HH8.out, by have : 4 ≤ cur8.size := hz8; omega⟩, ⟨_, (hb11.block _ hlt7).trans HH7.out, hz7⟩, ⟨_, (hb11.block _ hlt4).trans HH4.out, hz4⟩⟩
        clear hcs
        refine (wpIn_wide (n := 0)).1 ?_
        refine wpIn_region_put (by kernel_rfl) (fun _ => trivial) [134, 135, 136, 137, 138, 139, 140, 141, 142, 143, 144, 145, 146, 147] [(134, .pointer (some ⟨w10.heap.size, 6, none⟩)), (135, .pointer (some ⟨w10.heap.size, 8, none⟩)), (136, .slice (some ⟨g8, 0, none⟩) 4 c8), (137, .pointer (some ⟨w10.heap.size, 6, none⟩)), (138, .pointer (some ⟨w10.heap.size, 7, none⟩)), (139, .slice (some ⟨g7, 0, none⟩) 1 c7), (140, .pointer (some ⟨w10.heap.size, 0, none⟩)), (141, .pointer (some ⟨w10.heap.size, 4, none⟩)), (142, .slice (some ⟨g4, 0, none⟩) 1 c4), (143, .pointer (some ⟨g8, 0, none⟩)), (144, .pointer (some ⟨g7, 0, none⟩)), (145, .pointer (some ⟨g7, 1, none⟩)), (146, .pointer (some ⟨g4, 0, none⟩)), (147, .pointer (some ⟨g4, 1, none⟩))] ?gfin2 (Wr w10.heap.size #[.string ⟨#[71, 69, 84]⟩, .string ⟨#[104, 116, 116, 112, 115]⟩, .string ⟨#[97]⟩, .string ⟨#[47]⟩, .slice (some ⟨g4, 0, none⟩) 1 c4, .slice a5 0 c5, .int .i64 200, .slice (some ⟨g7, 0, none⟩) 1 c7, .slice (some ⟨g8, 0, none⟩) 4 c8, .int .i64 0, .int .i64 0] 39 g8 (0, 0) g7 g4 (w10.alloc (.cells #[.string ⟨#[71, 69, 84]⟩, .string ⟨#[104, 116, 116, 112, 115]⟩, .string ⟨#[97]⟩, .string ⟨#[47]⟩, .slice (some ⟨g4, 0, none⟩) 1 c4, .slice a5 0 c5, .int .i64 200, .slice (some ⟨g7, 0, none⟩) 1 c7, .slice (some ⟨g8, 0, none⟩) 4 c8, .int .i64 0, .int .i64 0] 39))) (by kernel_rfl) (by kernel_rfl) ?ghe2 ?ghfin2 hi20.drew ?gops2 ?grest2
        case ghe2 => rfl
        case ghfin2 =>
          simp only [putAll, List.foldl, Act.put, List.setIfInBounds_toArray, List.set]
          rfl
        case gops2 =>
          clear hi20 hb11
          refine ⟨?_, ?_, ?_, ?_, ?_, ?_, ?_, ?_, ?_, ?_, ?_, ?_, ?_, ?_, ?_, ?_, ?_, trivial⟩
          all_goals
            refine det_go (by rfl) ?_
            intro w8 hw
            have c4' : w8.cell? ⟨w10.heap.size, 4, none⟩ = some (.slice (some ⟨g4, 0, none⟩) 1 c4) := (row_cell hw.x 4).trans rfl
            have c7' : w8.cell? ⟨w10.heap.size, 7, none⟩ = some (.slice (some ⟨g7, 0, none⟩) 1 c7) := (row_cell hw.x 7).trans rfl
            have c8' : w8.cell? ⟨w10.heap.size, 8, none⟩ = some (.slice (some ⟨g8, 0, none⟩) 4 c8) := (row_cell hw.x 8).trans rfl
            obtain ⟨ub, cb⟩ := cell_any hw.b (j := 0) (by omega)
            obtain ⟨us, cs⟩ := cell_any hw.s (j := 1) (by omega)
            obtain ⟨uq, cq⟩ := cell_any hw.q (j := 1) (by omega)
            have fb := free_any hw.b 0
            have fs := free_any hw.s 1
            have fq := free_any hw.q 1
            have HW := Lib.hid hw
            clear hw
            go_simp
            first
              | exact HW.out
              | exact HW.out.set (by simp) (by omega) _ _
        case grest2 =>
          intro w12 hw
          have hg9 : ∀ j ∈ [g8, g7, g4], w9.heap.size ≤ j := fun j hj => by
            simp only [List.mem_cons, List.mem_nil_iff, or_false] at hj
            rcases hj with rfl | rfl | rfl <;> assumption
          have hown9 : ∀ j ∈ own1 wr.heap.size [(⟨b, nSt, r7, sizeI 100 nSt⟩ : Lk)], j < w9.heap.size := HI9.out.ltW
          have hh12 : Hold (own1 wr.heap.size [(⟨b, nSt, r7, sizeI 100 nSt⟩ : Lk)]) w9 w12 := by
            have h1 : Hold (own1 wr.heap.size [(⟨b, nSt, r7, sizeI 100 nSt⟩ : Lk)] ++ [g8, g7, g4]) w9 w12 := ((HH10.out.sub (fun j hj => List.mem_append_left _ hj)).trans (Hold.of_below hb11)).trans (hw.hold.sub (fun j hj => List.mem_append_right _ hj))
            exact h1.old (fun j hj hlt => by
              rcases List.mem_append.1 hj with hj | hj
              · exact hj
              · have := hg9 j hj
                omega)
          have hc12 : Chain w12 wr.heap.size 65536 (total [(⟨b, nSt, r7, sizeI 100 nSt⟩ : Lk)]) [(⟨b, nSt, r7, sizeI 100 nSt⟩ : Lk)] := by
            have h1 := (HI10.out.ch.hold (S := []) (Hold.of_below hb11) (by simp) (by simp))
            refine h1.hold hw.hold (fun hm => ?_) (fun i l hi hm => ?_)
            · have := hg9 _ hm
              have := hown9 _ (.head _)
              omega
            · have h2 : l ∈ [(⟨b, nSt, r7, sizeI 100 nSt⟩ : Lk)] := List.mem_of_getElem? hi
              have := hg9 _ hm
              have := hown9 l.b (.tail _ (List.mem_map.2 ⟨l, h2, rfl⟩))
              omega
          have HI12 := Lib.hid (HI9.out.perm (M := [(⟨b, nSt, r7, sizeI 100 nSt⟩ : Lk)]) (fun l hl => hl) rfl hc12 hh12)
          have HB12 := Lib.hid (HB9.out.trans (hh12.below (n := W.heap.size) HB9.out.size (fun j hj => by
            have h1 := HSG.out
            have h2 := HBW.out
            have h3 := HG6.out
            simp only [own1, List.map_cons, List.map_nil, List.mem_cons, List.mem_nil_iff, or_false] at hj
            rcases hj with rfl | rfl <;> omega)))
          clear hw hg9 hown9 hh12 hc12 hi20 hb11 HI9 HB9 HRO HI10 HH10 HH8 HH7 HH4 hlt8 hlt7 hlt4 hz8 hz7 hz4 hb8 hb7 hb4
          go_wp2_with fail
          refine (list_calls _ w12 wr.heap.size 65536 _ HI12.out (fun l hl => by rw [List.mem_singleton.1 hl]; exact f_n.small)).mono ?_
          rintro e w13 ⟨v13, rfl, ho, hi13, hb13⟩
          obtain ⟨gL, cL, hv, hbL, hmem⟩ := R_member (xs := [nSt]) ho (by simp)
          subst hv
          obtain ⟨⟨b4, d4, b5, d5, b7, d7, b8, d8⟩, hr13, hcell⟩ := hmem 0 nSt rfl
          obtain ⟨h8, k8, cu8, e8, _, hh8, _⟩ := R_bytes hr13.h8 (by simp [nSt])
          injection e8 with e8a _ e8c
          have e8a' : b8 = some ⟨h8, 0, none⟩ := e8a
          have e8c' : d8 = k8 := e8c
          subst e8a' e8c'
          have q7 : Kd.R k63 63 w13 w12.heap.size (fun _ => True) (.slice b7 1 d7) [⟨⟨#[97]⟩, ⟨#[98]⟩⟩] := hr13.h7
          obtain ⟨h7, k7, cu7, e7, _, hh7, _, _, cell7⟩ := R_field q7
          injection e7 with e7a _ e7c
          subst e7a e7c
          have q4 : Kd.R k63 63 w13 w12.heap.size (fun _ => True) (.slice b4 1 d4) [⟨⟨#[99]⟩, ⟨#[100]⟩⟩] := hr13.h4
          obtain ⟨h4, k4, cu4, e4, _, hh4, _, _, cell4⟩ := R_field q4
          injection e4 with e4a _ e4c
          subst e4a e4c
          have hcs : (convert 30 9 (.slice (some ⟨h8, 0, none⟩) 4 d8)).run Tryd.prog w13 = .ok (.string ⟨#[98, 111, 100, 121]⟩) w13 := by
            have h := Kd.C_string (c := d8) Tryd.underlying30 Tryd.underlying5 Tryd.underlying9 (Kd.R_reads' hr13.h8).2.2
            exact h
          have x8 : w13.cell? ⟨gL, 8, none⟩ = some (.slice (some ⟨h8, 0, none⟩) 4 d8) := hcell 8 _ rfl
          have x7 : w13.cell? ⟨gL, 7, none⟩ = some (.slice (some ⟨h7, 0, none⟩) 1 d7) := hcell 7 _ rfl
          have x4 : w13.cell? ⟨gL, 4, none⟩ = some (.slice (some ⟨h4, 0, none⟩) 1 d4) := hcell 4 _ rfl
          have HB13 := Lib.hid (HB12.out.trans (hb13.mono HB12.out.size))
          clear q7 q4 ho hi13 hb13 hmem hr13 hcell hh8 hh7 hh4 HI12 HB12 hbL
          dsimp only [List.length_cons, List.length_nil]
          go_wp2_with fail
          refine (alive_calls _).mono ?_
          rintro e w14 ⟨rfl, hb14⟩
          have HB14 := Lib.hid (HB13.out.trans (hb14.mono HB13.out.size))
          clear hb14
          go_wp2
          go_ret
          exact ⟨rfl, HB14.out⟩
end Go.Proofs.YtbedkjmdckgbgaaDoor.P
/- An act that comes in: what its cells are. -/
namespace Go.Proofs.YtbedkjmdckgbgaaDoor.P
open Go.RowKit Go.ChangeShapes Go.WideShapes Go.ChangeAt
theorem cell_wide {P : Program} {W : World} {base t : Nat} {v : Value} (h : Cell.okWide P W .any base t v) (hs : (match P.underlying t with | some (.struct _) | some (.array _ _) => true | _ => false) = false) : Value.okWide P W .any base t v := by
  unfold Value.okWide
  split
  · rename_i hu
    rw [hu] at hs
    cases hs
  · rename_i hu
    rw [hu] at hs
    cases hs
  · exact h
theorem agg_wide {P : Program} {W : World} {base t : Nat} {v : Value} {fs : Array Field} {ts : List TypeId} (hu : P.underlying t = some (.struct fs)) (hts : P.cellTypes P.depth t = some ts) (h : Value.okWide P W .any base t v) :
    ∃ cs, v = .agg cs ∧ cs.size = P.cellsOf t ∧ ∀ (i : Nat) (v : Value), cs[i]? = some v → ∃ u, ts[i % ts.length]? = some u ∧ Cell.okWide P W .any base u v := by
  unfold Value.okWide at h
  rw [hu] at h
  obtain ⟨cs, rfl, hsz, ts', hts', _, hc⟩ := h
  rw [hts] at hts'
  injection hts' with hts'
  subst hts'
  exact ⟨cs, rfl, hsz, hc⟩
theorem act_types : Tryd.prog.cellTypes Tryd.prog.depth 38 = some [5, 9, 9, 9, 9, 29, 30, 3, 29, 30, 3, 3] := by kernel_rfl
set_option maxRecDepth 100000 in
theorem act_form {W : World} {base : Nat} {v : Value} (h : Value.okWide Tryd.prog W .any base 38 v) : ∃ (kd : Int) (x : St) (r : Fr), v = .agg (actC kd x r) := by
  obtain ⟨cs, rfl, hsz, hc⟩ := agg_wide Tryd.underlying38 act_types h
  have hsz : cs.size = 12 := hsz.trans (by kernel_rfl)
  have at_ : ∀ i, i < 12 → ∃ v u, cs[i]? = some v ∧ [5, 9, 9, 9, 9, 29, 30, 3, 29, 30, 3, 3][i % 12]? = some u ∧ Cell.okWide Tryd.prog W .any base u v := fun i hi => by
    obtain ⟨u, hu, hw⟩ := hc i cs[i] (Array.getElem?_eq_getElem (by omega))
    exact ⟨cs[i], u, Array.getElem?_eq_getElem (by omega), hu, hw⟩
  obtain ⟨v0, u0, e0, t0, w0⟩ := at_ 0 (by omega)
  obtain ⟨v1, u1, e1, t1, w1⟩ := at_ 1 (by omega)
  obtain ⟨v2, u2, e2, t2, w2⟩ := at_ 2 (by omega)
  obtain ⟨v3, u3, e3, t3, w3⟩ := at_ 3 (by omega)
  obtain ⟨v4, u4, e4, t4, w4⟩ := at_ 4 (by omega)
  obtain ⟨v5, u5, e5, t5, w5⟩ := at_ 5 (by omega)
  obtain ⟨v6, u6, e6, t6, w6⟩ := at_ 6 (by omega)
  obtain ⟨v7, u7, e7, t7, w7⟩ := at_ 7 (by omega)
  obtain ⟨v8, u8, e8, t8, w8⟩ := at_ 8 (by omega)
  obtain ⟨v9, u9, e9, t9, w9⟩ := at_ 9 (by omega)
  obtain ⟨v10, u10, e10, t10, w10⟩ := at_ 10 (by omega)
  obtain ⟨v11, u11, e11, t11, w11⟩ := at_ 11 (by omega)
  simp only [Nat.zero_mod, Nat.reduceMod, List.getElem?_cons_zero, List.getElem?_cons_succ, Option.some.injEq] at t0 t1 t2 t3 t4 t5 t6 t7 t8 t9 t10 t11
  subst t0 t1 t2 t3 t4 t5 t6 t7 t8 t9 t10 t11
  obtain ⟨kd, rfl⟩ := okWide_int Tryd.underlying5 (cell_wide w0 (by kernel_rfl))
  obtain ⟨s1, rfl⟩ := okWide_string Tryd.underlying9 (cell_wide w1 (by kernel_rfl))
  obtain ⟨s2, rfl⟩ := okWide_string Tryd.underlying9 (cell_wide w2 (by kernel_rfl))
  obtain ⟨s3, rfl⟩ := okWide_string Tryd.underlying9 (cell_wide w3 (by kernel_rfl))
  obtain ⟨s4, rfl⟩ := okWide_string Tryd.underlying9 (cell_wide w4 (by kernel_rfl))
  obtain ⟨a5, n5, c5, rfl⟩ := okWide_slice Tryd.underlying29 (cell_wide w5 (by kernel_rfl))
  obtain ⟨a6, n6, c6, rfl⟩ := okWide_slice Tryd.underlying30 (cell_wide w6 (by kernel_rfl))
  obtain ⟨i7, rfl⟩ := okWide_int Tryd.underlying3 (cell_wide w7 (by kernel_rfl))
  obtain ⟨a8, n8, c8, rfl⟩ := okWide_slice Tryd.underlying29 (cell_wide w8 (by kernel_rfl))
  obtain ⟨a9, n9, c9, rfl⟩ := okWide_slice Tryd.underlying30 (cell_wide w9 (by kernel_rfl))
  obtain ⟨i10, rfl⟩ := okWide_int Tryd.underlying3 (cell_wide w10 (by kernel_rfl))
  obtain ⟨i11, rfl⟩ := okWide_int Tryd.underlying3 (cell_wide w11 (by kernel_rfl))
  refine ⟨kd, ⟨s1, s2, s3, s4, List.replicate n5 ⟨⟨#[]⟩, ⟨#[]⟩⟩, List.replicate n6 0, i7, List.replicate n8 ⟨⟨#[]⟩, ⟨#[]⟩⟩, List.replicate n9 0, i10, i11⟩, ⟨a5, c5, a6, c6, a8, c8, a9, c9⟩, congrArg Value.agg (Array.ext_getElem? fun i => ?_)⟩
  simp only [actC, List.length_replicate]
  match i with
  | 0 => exact e0
  | 1 => exact e1
  | 2 => exact e2
  | 3 => exact e3
  | 4 => exact e4
  | 5 => exact e5
  | 6 => exact e6
  | 7 => exact e7
  | 8 => exact e8
  | 9 => exact e9
  | 10 => exact e10
  | 11 => exact e11
  | i + 12 =>
    rw [Array.getElem?_eq_none (by omega)]
    rfl
end Go.Proofs.YtbedkjmdckgbgaaDoor.P
/- StoreNobody: the card. Printed by mkcard.py out of the kit's printed row; the witness world: Laid. -/
namespace Go.Proofs.YtbedkjmdckgbgaaDoor.storeNobody
open Go.ChangeShapes Go.WideShapes Go.ChangeAt Go.RowKit
open Go.ChangeMaps (open_string shut_string)
set_option linter.unusedVariables false
theorem laidOut : laidOutB Tryd.prog = true := by kernel_rfl
theorem own : ownKnob Tryd.prog.godebug = none := by kernel_rfl
set_option maxRecDepth 100000 in
theorem laid_met (os : Os) : laidMet Tryd.prog Rows.storeNobodyRow.laid ((laidWorld os).forCall (fun _ _ => 0) ⟨#[], #[.agg #[.int .u8 0, .string ByteArray.empty, .string ByteArray.empty, .string ByteArray.empty, .string ByteArray.empty, .slice none 0 0, .slice none 0 0, .int .i64 0, .slice none 0 0, .slice none 0 0, .int .i64 0, .int .i64 0]], []⟩).memory :=
  laidMet_of_run3 8 (by kernel_rfl) (by kernel_rfl) (by kernel_rfl)
theorem reads (os : Os) {H : Type} (enc : TypeId × Value → H) : ∃ places, DataW.whole enc Tryd.prog ((laidWorld os).forCall (fun _ _ => 0) ⟨#[], #[.agg #[.int .u8 0, .string ByteArray.empty, .string ByteArray.empty, .string ByteArray.empty, .string ByteArray.empty, .slice none 0 0, .slice none 0 0, .int .i64 0, .slice none 0 0, .slice none 0 0, .int .i64 0, .int .i64 0]], []⟩).memory Tryd.f5.params.toList Rows.storeNobodySpec.vars false #[.agg #[.int .u8 0, .string ByteArray.empty, .string ByteArray.empty, .string ByteArray.empty, .string ByteArray.empty, .slice none 0 0, .slice none 0 0, .int .i64 0, .slice none 0 0, .slice none 0 0, .int .i64 0, .int .i64 0]].toList 8 = some ([.agg [.lit (.int .u8 0), .agg [.agg [.lit (.string []), .lit (.string []), .lit (.string []), .lit (.string []), .nil, .nil], .agg [.lit (.int .i64 0), .nil, .nil], .lit (.int .i64 0), .lit (.int .i64 0)]]], [], places) :=
  ⟨[], by kernel_rfl⟩
set_option maxRecDepth 100000 in
theorem lifted (os : Os) (started : os.Started) (H : Type) (enc : TypeId × Value → H) (F : Stop.Interp) :
    ReturnsInHanded {} Tryd.checked os 5 .any ((OpenSpec.ofChange Rows.storeNobodySpec).preRow enc Tryd.prog Tryd.f5 Rows.storeNobodyRow.domain false Rows.storeNobodyRow.laid) (((OpenSpec.ofChange Rows.storeNobodySpec).at F).post enc Tryd.prog Tryd.f5 false true false false) := by
  obtain ⟨places, hx⟩ := reads os enc
  refine returnsInHanded_of_row (C := Tryd.checked) (s := OpenSpec.ofChange Rows.storeNobodySpec) own started (by kernel_rfl) Tryd.func5
    (witness_row_at (enc := enc) (C := Tryd.checked) false (laidWorld os) #[.agg #[.int .u8 0, .string ByteArray.empty, .string ByteArray.empty, .string ByteArray.empty, .string ByteArray.empty, .slice none 0 0, .slice none 0 0, .int .i64 0, .slice none 0 0, .slice none 0 0, .int .i64 0, .int .i64 0]] rfl (by kernel_rfl) (by kernel_rfl) (by kernel_rfl)
      (OpenSpec.preRow_of_cond 8 hx (by kernel_rfl) (fun k hk => by cases hk) (by kernel_rfl) (laid_met os))) ?_
  intro W base args ds gs before hval0 hW hcnd hbulk hsz0 hL _ _
  have hval : ∀ (j : Nat) t v, Tryd.f5.params[j]? = some t → args[j]? = some v → Value.okWide Tryd.prog W .any base t v := hval0
  have hW' := hW
  obtain ⟨p, q, hA0, hV, rfl, hfz, hnd⟩ := hW
  have hA : DataW.TrodAll enc Tryd.prog W 0 (fun _ => true) true Tryd.f5.params.toList args.toList ds p := hA0
  rw [Tryd.params5] at hA hval
  obtain ⟨v0, vs0, d0, ds0, p0, q0, hargs, rfl, rfl, h0, r0⟩ := trodAll_cons hA
  obtain ⟨rfl, rfl, rfl⟩ := trodAll_nil r0
  obtain rfl : args = #[v0] := by cases args; simp_all
  obtain ⟨rfl, rfl⟩ := trodVars_none hV
  have lt0 : ∀ x ∈ p0, x.block < W.heap.size := by obtain ⟨m, hm⟩ := h0; exact DataW.trod_lt m _ _ _ hm
  obtain ⟨kd, x, r, rfl⟩ := P.act_form (hval 0 38 v0 rfl rfl)
  clear hA0 hval0 hsz0
  refine (P.nobody_calls W kd x r).mono fun e W' ⟨he, bel⟩ => ?_
  subst he
  exact ⟨_, rfl, _, _, _, [], _, [], hW', trodAll_mk1 (shut_bool Tryd.underlying4 _), (trodAll_cons_mk (Below.trod laidOut (by kernel_rfl) (of_decide_eq_true (by kernel_rfl)) h0 bel lt0) trodAll_mk0), rfl, bel.frame _, fun h => by cases h⟩
theorem said : Rows.StoreNobodySaid :=
  OpenClaim.holds_of_cond 5 Tryd.f5 rfl rfl rfl rfl rfl rfl rfl ⟨rfl, rfl, rfl, rfl, rfl⟩ rfl rfl rfl rfl rfl (by kernel_rfl) Tryd.func5 (by kernel_rfl)
    (of_decide_eq_true (by kernel_rfl)) (by unfold Func.isWrapper; first | (rw [if_pos (by decide +kernel)]; kernel_rfl) | (rw [if_neg (by decide +kernel)]; exact ⟨rfl, rfl⟩))
    (fun os started H enc _ F => by rw [OpenClaim.pre_eq_preRow]; exact lifted os started H enc F)
theorem plain (f : FuncId) (fn : Func) (hf : Tryd.pinned.checked.prog.funcNamed "turnbuckle/turnbucklelaw20.StoreNobody" = some f) (hfn : Tryd.pinned.checked.prog.funcs[f]? = some fn) :
    false = Tryd.pinned.checked.prog.looks [] ∧ ∀ (j : Nat) t, fn.params[j]? = some t → Tryd.pinned.checked.prog.wantsStandIn t = false := by
  obtain rfl : f = 5 := Option.some.inj ((show Tryd.prog.funcNamed "turnbuckle/turnbucklelaw20.StoreNobody" = some 5 by kernel_rfl).symm.trans hf) |>.symm
  obtain rfl : fn = Tryd.f5 := (Option.some.inj (Tryd.func5.symm.trans hfn)).symm
  refine ⟨by kernel_rfl, fun j t ht => ?_⟩
  have all : Tryd.f5.params.all (fun t => Tryd.prog.wantsStandIn t == false) = true := by kernel_rfl
  have h := Array.all_eq_true_iff_forall_mem.1 all t (Array.mem_of_getElem? ht)
  exact beq_iff_eq.1 h
theorem card : Rows.StoreNobodyCardSaid :=
  Claim7.holds_tied_plain_at .later [] _ _ _ _ said (fun _ h => by cases h) (by kernel_rfl) (fun _ h => by cases h) storeNobody_row_tie rfl ⟨rfl, rfl⟩ (by kernel_rfl) rfl plain (by kernel_rfl)
end Go.Proofs.YtbedkjmdckgbgaaDoor.storeNobody
