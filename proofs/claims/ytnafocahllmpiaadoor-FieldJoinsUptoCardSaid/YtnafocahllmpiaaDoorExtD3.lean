/- field.Directives: the walk. Conditions as in its function's text. -/
import Derived.Test.YtnafocahllmpiaaDoorExtD2
import Derived.Laws.CopyOwn
import Derived.Deep.WholeRow
namespace Go.Proofs.YtnafocahllmpiaaDoor.P
open Go.RowKit Go.Shelf Go.Proofs.YtnafocahllmpiaaDoorW.PrintWords
theorem R_only {α : Type} {d : Kd α} {e base B : Nat} {w w1 : World} {v : Value} {xs : List α} (h : Kd.R d e w base (fun _ => True) v xs) (hB : B < base) (ho : Only B w w1) : Kd.R d e w1 base (fun _ => True) v xs :=
  Kd.R_mono (Kd.R_move (Kd.R_bound h) (fun k hk => ho.block k hk.2.2.1 (by have := hk.2.1; omega))) (fun _ _ => trivial)
theorem MapAt.other {w w' : World} {B r : Nat} {l : List (ByteArray × Value)} (h : MapAt w r l) (ho : Only B w w') (hn : r ≠ B) : MapAt w' r l :=
  (ho.block r (Array.getElem?_eq_some_iff.1 h).1 hn).trans h
/-- What stands at the head of each round, and within: N: the heap's size when the call began. -/
structure DirRel (w0 : World) (base : Nat) (v : Value) (es : List ByteArray) (wr : World) (c : Ctl) : Prop where
  hb : w0.heap.size + 4 ≤ base
  ctl : CtlAt wr (w0.heap.size + 1) c
  fl : MapAt wr (w0.heap.size + 2) (tabVals (w0.heap.size + 1) flagTab)
  nm : MapAt wr (w0.heap.size + 3) (tabVals (w0.heap.size + 1) numTab)
  res : wr.heap[w0.heap.size]? = some (.cells #[.bool false, .bool false, .bool false, .bool false, .bool false, .bool false, .int .i64 0, .int .i64 0, .int .i64 0, .int .i64 0, .int .i64 0, .int .i64 0] 42 (0, 0))
  row : Kd.R Kd.string 9 wr base (fun _ => True) v es
  below : Below w0.heap.size w0 wr
theorem DirRel.only {w0 : World} {base : Nat} {v : Value} {es : List ByteArray} {wr w1 : World} {c c' : Ctl} (h : DirRel w0 base v es wr c) (ho : Only (w0.heap.size + 1) wr w1) (hc : CtlAt w1 (w0.heap.size + 1) c') : DirRel w0 base v es w1 c' :=
  ⟨h.hb, hc, h.fl.other ho (by omega), h.nm.other ho (by omega), (ho.block _ (Array.getElem?_eq_some_iff.1 h.res).1 (by omega)).trans h.res, R_only h.row (by have := h.hb; omega) ho, ho.below h.below (by omega) h.below.size⟩
theorem DirRel.step {w0 : World} {base : Nat} {v : Value} {es : List ByteArray} {wr w1 : World} {c : Ctl} (h : DirRel w0 base v es wr c) (hb : Below wr.heap.size wr w1) : DirRel w0 base v es w1 c :=
  h.only (Only.of_below hb) (h.ctl.below hb)
theorem DirRel.elem {w0 : World} {base A c0 : Nat} {ad : Option Addr} {es : List ByteArray} {wr : World} {c : Ctl} (h : DirRel w0 base (.slice ad A c0) es wr c) (k : Nat) (hk : k < es.length) :
    ∃ a, ad = some a ∧ wr.cell? (a.add k) = some (.string (es.getD k ByteArray.empty)) := by
  obtain ⟨A', c', e, _, hC⟩ := Kd.R_reads h.row
  injection e with e1 e2 e3
  subst e1
  obtain ⟨a, ha, hc⟩ := (Kd.reads_of_C (enc := Value.string) (d := ByteArray.empty) (h1 := fun _ => rfl) hC).2.2 (by omega)
  exact ⟨a, ha, hc k hk⟩
theorem dirAll_drop (k : Nat) (es : List ByteArray) (i : Nat) (h : i < es.length) (c : Ctl) : dirAll k (es.drop i) c = (dirStep k c (es.getD i ByteArray.empty)).bind (dirAll k (es.drop (i + 1))) := by
  rw [List.drop_eq_getElem_cons h, dirAll]
  simp [List.getD_eq_getElem?_getD, List.getElem?_eq_getElem h]
theorem ctl_store (P : Program) (w : World) (g : Nat) (old : Array Value) (hs : old.size = 12) (t : TypeId) (c : Ctl) (hg : w.heap[g]? = some (.cells old t (0, 0))) :
    (storeCells ⟨g, 0, none⟩ (ctlCells c).toList).run P w = .ok () (w.setRow g (ctlCells c)) := by
  have hl : (ctlCells c).toList.length = 12 := rfl
  have h := run_storeCells_at (P := P) g 0 t (ctlCells c).toList 0 old w hg (by rw [hl]; omega) (by
    intro v hv
    simp only [ctlCells, List.mem_cons, List.mem_nil_iff, or_false] at hv
    rcases hv with rfl | rfl | rfl | rfl | rfl | rfl | rfl | rfl | rfl | rfl | rfl | rfl <;> rfl)
  rw [h, List.drop_of_length_le (by rw [hl]; simp [hs])]
  simp
theorem below_drewN' {w w' : World} {n : Nat} (h : Below (w.drewN n).heap.size (w.drewN n) w') : Below w.heap.size w w' := ⟨h.os, h.tape, h.output, h.size, h.block⟩
theorem dirUnq_size {b a : ByteArray} (h : dirUnq b = some a) : b.size ≤ 140737488355328 := by
  unfold dirUnq at h
  split at h
  · assumption
  · cases h
theorem dirUnq_cases {b a : ByteArray} (h : dirUnq b = some a) : (¬ 1 < b.size ∧ a = b) ∨ (1 < b.size ∧ strings_HasPrefix.f b ⟨#[34]⟩ = some false ∧ a = b) ∨
    (1 < b.size ∧ strings_HasPrefix.f b ⟨#[34]⟩ = some true ∧ ∃ q, strings_HasSuffix.f b ⟨#[34]⟩ = some q ∧ a = if q = true then b.extract 1 (b.size - 1) else b) := by
  unfold dirUnq at h
  rw [if_pos (dirUnq_size h)] at h
  split at h
  · rename_i h1
    obtain ⟨p, hp, h⟩ := Option.bind_eq_some_iff.1 h
    cases p with
    | false => exact .inr (.inl ⟨h1, hp, (Option.some.inj h).symm⟩)
    | true =>
      obtain ⟨q, hq, h⟩ := Option.bind_eq_some_iff.1 h
      refine .inr (.inr ⟨h1, hp, q, hq, ?_⟩)
      cases q <;> exact (Option.some.inj h).symm
  · rename_i h1
    exact .inl ⟨h1, (Option.some.inj h).symm⟩
set_option maxHeartbeats 2000000 in
set_option maxRecDepth 100000 in
theorem dir_any (kr : Nat) (A0 : Option Addr) (c0 : Nat) (l0 : List (S45)) (vs es : List ByteArray) (ce : Ctl) (w : World) (hr0 : Kd.C k45 w A0 l0.length l0) (hc0 : l0.length ≤ c0)
    (hvs : field_All.f kr l0 ⟨#[99, 97, 99, 104, 101, 45, 99, 111, 110, 116, 114, 111, 108]⟩ = some vs) (hes : field_Elements.f kr vs = some es) (hce : dirAll kr es ctl0 = some ce) :
    Calls Tryd.prog 14 #[.slice A0 l0.length c0] w fun e w' => e = .returned (.agg (ctlCells ce)) ∧ Below w.heap.size w w' := by
  have hu42 := Tryd.underlying42
  have hmm := @run_makeMap Tryd.prog
  have HR := Lib.hid hr0
  have HC := Lib.hid hc0
  have HV := Lib.hid hvs
  have HE := Lib.hid hes
  have HD := Lib.hid hce
  clear hr0 hc0 hvs hes hce
  have m0 : MapAt (((w.alloc (.cells #[.bool false, .bool false, .bool false, .bool false, .bool false, .bool false, .int .i64 0, .int .i64 0, .int .i64 0, .int .i64 0, .int .i64 0, .int .i64 0] 42)).alloc (.cells #[.bool false, .bool false, .bool false, .bool false, .bool false, .bool false, .int .i64 (-1), .int .i64 (-1), .int .i64 (-1), .int .i64 (-1), .int .i64 (-1), .int .i64 (-1)] 42)).alloc (.map #[] 0)) (w.heap.size + 1 + 1) [] := by
    have h := (MapKept.heap_alloc ((w.alloc (.cells #[.bool false, .bool false, .bool false, .bool false, .bool false, .bool false, .int .i64 0, .int .i64 0, .int .i64 0, .int .i64 0, .int .i64 0, .int .i64 0] 42)).alloc (.cells #[.bool false, .bool false, .bool false, .bool false, .bool false, .bool false, .int .i64 (-1), .int .i64 (-1), .int .i64 (-1), .int .i64 (-1), .int .i64 (-1), .int .i64 (-1)] 42)) (.map #[] 0)).1
    rw [World.size_alloc, World.size_alloc] at h
    exact h
  have d0 : CtlAt ((w.alloc (.cells #[.bool false, .bool false, .bool false, .bool false, .bool false, .bool false, .int .i64 0, .int .i64 0, .int .i64 0, .int .i64 0, .int .i64 0, .int .i64 0] 42)).alloc (.cells #[.bool false, .bool false, .bool false, .bool false, .bool false, .bool false, .int .i64 (-1), .int .i64 (-1), .int .i64 (-1), .int .i64 (-1), .int .i64 (-1), .int .i64 (-1)] 42)) (w.heap.size + 1) ctl0 := by
    have h := (MapKept.heap_alloc (w.alloc (.cells #[.bool false, .bool false, .bool false, .bool false, .bool false, .bool false, .int .i64 0, .int .i64 0, .int .i64 0, .int .i64 0, .int .i64 0, .int .i64 0] 42)) (.cells #[.bool false, .bool false, .bool false, .bool false, .bool false, .bool false, .int .i64 (-1), .int .i64 (-1), .int .i64 (-1), .int .i64 (-1), .int .i64 (-1), .int .i64 (-1)] 42)).1
    rw [World.size_alloc] at h
    exact h
  have e0 := (MapKept.heap_alloc w (.cells #[.bool false, .bool false, .bool false, .bool false, .bool false, .bool false, .int .i64 0, .int .i64 0, .int .i64 0, .int .i64 0, .int .i64 0, .int .i64 0] 42)).1

  have D0 := Lib.hid d0
  have E0 := Lib.hid e0
  clear d0 e0
  obtain ⟨V1, p1, m1, o1, z1⟩ := put_run Tryd.underlying67 Tryd.underlying9 m0 ⟨#[110, 111, 45, 115, 116, 111, 114, 101]⟩ (.pointer (some ⟨w.heap.size + 1, 0, none⟩)) (by rfl)
  obtain ⟨V2, p2, m2, o2, z2⟩ := put_run Tryd.underlying67 Tryd.underlying9 m1 ⟨#[110, 111, 45, 99, 97, 99, 104, 101]⟩ (.pointer (some ⟨w.heap.size + 1, 1, none⟩)) (by rfl)
  obtain ⟨V3, p3, m3, o3, z3⟩ := put_run Tryd.underlying67 Tryd.underlying9 m2 ⟨#[109, 117, 115, 116, 45, 114, 101, 118, 97, 108, 105, 100, 97, 116, 101]⟩ (.pointer (some ⟨w.heap.size + 1, 2, none⟩)) (by rfl)
  obtain ⟨V4, p4, m4, o4, z4⟩ := put_run Tryd.underlying67 Tryd.underlying9 m3 ⟨#[112, 114, 111, 120, 121, 45, 114, 101, 118, 97, 108, 105, 100, 97, 116, 101]⟩ (.pointer (some ⟨w.heap.size + 1, 2, none⟩)) (by rfl)
  obtain ⟨V5, p5, m5, o5, z5⟩ := put_run Tryd.underlying67 Tryd.underlying9 m4 ⟨#[112, 117, 98, 108, 105, 99]⟩ (.pointer (some ⟨w.heap.size + 1, 3, none⟩)) (by rfl)
  obtain ⟨V6, p6, m6, o6, z6⟩ := put_run Tryd.underlying67 Tryd.underlying9 m5 ⟨#[112, 114, 105, 118, 97, 116, 101]⟩ (.pointer (some ⟨w.heap.size + 1, 4, none⟩)) (by rfl)
  obtain ⟨V7, p7, m7, o7, z7⟩ := put_run Tryd.underlying67 Tryd.underlying9 m6 ⟨#[111, 110, 108, 121, 45, 105, 102, 45, 99, 97, 99, 104, 101, 100]⟩ (.pointer (some ⟨w.heap.size + 1, 5, none⟩)) (by rfl)
  have n0 : MapAt (V7.alloc (.map #[] 0)) V7.heap.size [] := (MapKept.heap_alloc V7 (.map #[] 0)).1
  obtain ⟨U1, q1, n1, r1, y1⟩ := put_run Tryd.underlying69 Tryd.underlying9 n0 ⟨#[109, 97, 120, 45, 97, 103, 101]⟩ (.pointer (some ⟨w.heap.size + 1, 6, none⟩)) (by rfl)
  obtain ⟨U2, q2, n2, r2, y2⟩ := put_run Tryd.underlying69 Tryd.underlying9 n1 ⟨#[115, 45, 109, 97, 120, 97, 103, 101]⟩ (.pointer (some ⟨w.heap.size + 1, 7, none⟩)) (by rfl)
  obtain ⟨U3, q3, n3, r3, y3⟩ := put_run Tryd.underlying69 Tryd.underlying9 n2 ⟨#[109, 105, 110, 45, 102, 114, 101, 115, 104]⟩ (.pointer (some ⟨w.heap.size + 1, 8, none⟩)) (by rfl)
  obtain ⟨U4, q4, n4, r4, y4⟩ := put_run Tryd.underlying69 Tryd.underlying9 n3 ⟨#[109, 97, 120, 45, 115, 116, 97, 108, 101]⟩ (.pointer (some ⟨w.heap.size + 1, 9, none⟩)) (by rfl)
  obtain ⟨U5, q5, n5, r5, y5⟩ := put_run Tryd.underlying69 Tryd.underlying9 n4 ⟨#[115, 116, 97, 108, 101, 45, 119, 104, 105, 108, 101, 45, 114, 101, 118, 97, 108, 105, 100, 97, 116, 101]⟩ (.pointer (some ⟨w.heap.size + 1, 10, none⟩)) (by rfl)
  obtain ⟨U6, q6, n6, r6, y6⟩ := put_run Tryd.underlying69 Tryd.underlying9 n5 ⟨#[115, 116, 97, 108, 101, 45, 105, 102, 45, 101, 114, 114, 111, 114]⟩ (.pointer (some ⟨w.heap.size + 1, 11, none⟩)) (by rfl)
  have hz7 : V7.heap.size = w.heap.size + 3 := by
    rw [z7, z6, z5, z4, z3, z2, z1]; simp
  have oV := ((((((o1.trans o2).trans o3).trans o4).trans o5).trans o6).trans o7)
  have oU := (((((r1.trans r2).trans r3).trans r4).trans r5).trans r6)
  clear o1 o2 o3 o4 o5 o6 o7 r1 r2 r3 r4 r5 r6 z1 z2 z3 z4 z5 z6 z7 y1 y2 y3 y4 y5 y6
  clear m0 m1 m2 m3 m4 m5 m6 n0 n1 n2 n3 n4 n5
  have hA7 : ∀ B, Only B V7 (V7.alloc (.map #[] 0)) := fun B => Only.of_below (below_alloc (Below.refl _ _) _)
  have hlt : ∀ (W : World) (B : Nat) (o : Obj), Only B W (W.alloc o) := fun W B o => Only.of_below (below_alloc (Below.refl _ _) _)
  have mf : MapAt U6 (w.heap.size + 2) (tabVals (w.heap.size + 1) flagTab) :=
    MapAt.other (MapAt.other (B := 0 + V7.heap.size) (show MapAt V7 (w.heap.size + 2) (tabVals (w.heap.size + 1) flagTab) from m7) (hlt V7 _ _) (by omega)) oU (by omega)
  have mn : MapAt U6 (w.heap.size + 3) (tabVals (w.heap.size + 1) numTab) := by
    rw [← hz7]
    exact n6
  have mc : CtlAt U6 (w.heap.size + 1) ctl0 :=
    ((((D0.out.other (hlt _ (w.heap.size + 2) _) (by omega)).other oV (by omega)).other (hlt V7 (w.heap.size + 2) _) (by omega)).other oU (by omega))
  have ob : Only (w.heap.size + 1 + 1) (w.alloc (.cells #[.bool false, .bool false, .bool false, .bool false, .bool false, .bool false, .int .i64 0, .int .i64 0, .int .i64 0, .int .i64 0, .int .i64 0, .int .i64 0] 42)) V7 := ((hlt _ _ _).trans (hlt _ _ _)).trans oV
  have hs1 : (w.alloc (.cells #[.bool false, .bool false, .bool false, .bool false, .bool false, .bool false, .int .i64 0, .int .i64 0, .int .i64 0, .int .i64 0, .int .i64 0, .int .i64 0] 42)).heap.size = w.heap.size + 1 := World.size_alloc _ _
  have mr7 := (ob.block w.heap.size (by omega) (by omega)).trans E0.out
  have mr8 := ((hlt V7 (w.heap.size + 1 + 1) (.map #[] 0)).block w.heap.size (by omega) (by omega)).trans mr7
  have hs8 : (V7.alloc (.map #[] 0)).heap.size = V7.heap.size + 1 := World.size_alloc _ _
  have mr := (oU.block w.heap.size (by omega) (by omega)).trans mr8
  have mb : Below w.heap.size w U6 := oU.below ((ob.below (below_alloc (Below.refl _ w) _) (by omega) (by omega)).alloc (by omega) _) (by omega) (by omega)
  have hsU : w.heap.size + 4 ≤ U6.heap.size := by have := oU.size; omega
  have MF := Lib.hid mf
  have MN := Lib.hid mn
  have MC := Lib.hid mc
  have MR := Lib.hid mr
  have MB := Lib.hid mb
  have HU := Lib.hid hsU
  have HZ := Lib.hid hz7
  clear mf mn mc mr mb hsU hz7 mr7 mr8 ob hs1 hs8 hA7 hlt oU oV m7 n6 D0 E0
  go_enter Tryd.func14, Tryd.ntmps14
  go_wp2_with fail
  clear p1 p2 p3 p4 p5 p6 p7 q1 q2 q3 q4 q5 q6
  refine (field_All.calls kr A0 c0 l0 _ vs _ (Kd.C_below HR.out MB.out) HC.out HV.out).mono ?_
  rintro e w1 ⟨v1, rfl, ho1, hb1⟩
  obtain ⟨A1, c1, rfl, hl1, hC1⟩ := Kd.R_reads ho1
  have HC1 := Lib.hid hC1
  have HL1 := Lib.hid hl1
  have HB1 := Lib.hid hb1
  clear ho1 hl1 hC1 hb1
  go_wp2_with fail
  refine (field_Elements.calls kr A1 c1 vs es _ HC1.out HL1.out HE.out).mono ?_
  rintro e w2 ⟨v2, rfl, ho2, hb2⟩
  obtain ⟨A2, c2, rfl, hl2, hC2⟩ := Kd.R_reads ho2
  have hn2 : es.length ≤ 9223372036854775807 := hC2.2.1
  have hrel : DirRel w w1.heap.size (.slice A2 es.length c2) es w2 ctl0 :=
    ⟨by have := HU.out; have := HB1.out.size; omega, (MC.out.below HB1.out).below hb2, (MF.out.other (B := w1.heap.size + w2.heap.size) ((Only.of_below HB1.out).trans (Only.of_below hb2)) (by have := HU.out; have := HB1.out.size; have := hb2.size; omega)),
      (MN.out.other (B := w1.heap.size + w2.heap.size) ((Only.of_below HB1.out).trans (Only.of_below hb2)) (by have := HU.out; have := HB1.out.size; have := hb2.size; omega)),
      (hb2.block _ (by have := HU.out; have := HB1.out.size; omega)).trans ((HB1.out.block _ (by have := HU.out; omega)).trans MR.out), ho2, below_step (below_step MB.out HB1.out) hb2⟩
  have REL := Lib.hid hrel
  clear hrel ho2 hl2 hC2 hb2 HB1 HC1 HL1 MF MN MC MR MB HU
  go_wp2_with fail
  go_loopw [35] (fun i wr => ∃ (k : Nat) (c : Ctl), k ≤ es.length ∧ i = .int .i64 k ∧ Hid (DirRel w w1.heap.size (.slice A2 es.length c2) es wr c) ∧ Hid (dirAll kr (es.drop k) c = some ce)) (fun i _ => es.length - (intOf i).toNat)
  case atStart => exact ⟨0, ctl0, Nat.zero_le _, rfl, REL, Lib.hid (by simpa using HD.out)⟩
  case round =>
    obtain ⟨k, c, hk, rfl, hR, hA⟩ := hrel
    by_cases hlt : k < es.length
    · have hs0 := hA.out
      rw [dirAll_drop _ _ _ hlt] at hs0
      obtain ⟨c', hd, hrest⟩ := Option.bind_eq_some_iff.1 hs0
      unfold dirStep at hd
      obtain ⟨⟨b1, b2, b3⟩, hcut, hd⟩ := Option.bind_eq_some_iff.1 hd
      obtain ⟨nm, hsm, hd⟩ := Option.bind_eq_some_iff.1 hd
      obtain ⟨a, hun, hd⟩ := Option.bind_eq_some_iff.1 hd
      split at hd
      · cases hd
      rename_i hms
      obtain ⟨A, rfl, hcell⟩ := hR.out.elem k hlt
      generalize es.getD k ByteArray.empty = x at hcell hcut
      have hltz : (k : Int) < (es.length : Int) := by omega
      have HCUT := Lib.hid hcut
      have HSM := Lib.hid hsm
      have HUN := Lib.hid (dirUnq_cases hun)
      have HMS := Lib.hid hms
      have HSZ := Lib.hid (dirUnq_size hun)
      have HDD := Lib.hid hd
      have HRR := Lib.hid hrest
      clear hs0 hcut hsm hun hd hrest hms hA
      have HX := hR
      clear hR
      go_wp2_with fail
      refine (strings_Cut.calls x ⟨#[61]⟩ b1 b2 b3 _ HCUT.out).mono ?_
      rintro e wa ⟨rfl, ⟨nd, rfl⟩⟩
      go_wp2_with fail
      refine (field_small.calls b1 nm _ HSM.out).mono ?_
      rintro e wb ⟨rfl, hbb⟩
      have HXb := Lib.hid (HX.out.step (below_drewN' hbb))
      clear hbb HX hcell
      go_upto_region 9 with (fail)
      go_cut [57] (fun v57 wc => ∃ q : Bool, v57 = .bool q ∧ Hid ((q = true → 1 < b2.size) ∧ a = if q = true then b2.extract 1 (b2.size - 1) else b2) ∧ Drawn0 wb wc)
      case first =>
        rcases HUN.out with ⟨h1, h2⟩ | ⟨h1, h2, h3⟩ | ⟨h1, h2, q, h3, h4⟩
        · have h1z : ¬ (1 : Int) < (b2.size : Int) := by omega
          go_wp2_with fail
          go_meet
          case rel => exact ⟨false, rfl, Lib.hid ⟨fun h => (by cases h), by simpa using h2⟩, Drawn0.refl _⟩
        · have h1z : (1 : Int) < (b2.size : Int) := by omega
          have H2 := Lib.hid h2
          clear h2
          go_wp2_with fail
          refine (strings_HasPrefix.calls b2 ⟨#[34]⟩ false _ H2.out).mono ?_
          rintro e w3 ⟨rfl, ⟨n3, rfl⟩⟩
          go_wp2_with fail
          go_meet
          case rel => exact ⟨false, rfl, Lib.hid ⟨fun h => (by cases h), by simpa using h3⟩, ⟨n3, rfl⟩⟩
        · have h1z : (1 : Int) < (b2.size : Int) := by omega
          have H2 := Lib.hid h2
          have H3 := Lib.hid h3
          have H4 := Lib.hid h4
          clear h2 h3 h4
          go_wp2_with fail
          refine (strings_HasPrefix.calls b2 ⟨#[34]⟩ true _ H2.out).mono ?_
          rintro e w3 ⟨rfl, ⟨n3, rfl⟩⟩
          go_wp2_with fail
          refine (strings_HasSuffix.calls b2 ⟨#[34]⟩ q _ H3.out).mono ?_
          rintro e w4 ⟨rfl, ⟨n4, rfl⟩⟩
          go_wp2_with fail
          go_meet
          case rel => exact ⟨q, rfl, Lib.hid ⟨fun _ => h1, H4.out⟩, by repeat (first | exact Drawn0.refl _ | apply Drawn0.step)⟩
      obtain ⟨q, rfl, hq, ⟨n5, rfl⟩⟩ := hcut
      clear HUN HSM HCUT
      go_upto_if 57 with (fail)
      go_cut [9] (fun v9 wc => v9 = .string a ∧ Hid (DirRel w w1.heap.size (.slice (some A) es.length c2) es wc c))
      case first =>
        have hd5 := Lib.hid (HXb.out.step (pw_below_drewN (Below.refl _ _) n5))
        cases q with
        | false =>
          have ha : a = b2 := by simpa using hq.out.2
          subst ha
          go_wp2_with fail
          go_meet
          case rel => exact ⟨rfl, hd5⟩
        | true =>
          have ha : a = b2.extract 1 (b2.size - 1) := by simpa using hq.out.2
          have h1 := hq.out.1 rfl
          have hw : wrap64 ((b2.size : Int) - 1) = (b2.size : Int) - 1 := by unfold wrap64; have := HSZ.out; omega
          have h2z : (1 : Int) ≤ (b2.size : Int) - 1 := by omega
          have h4z : ((b2.size : Int) - 1).toNat = b2.size - 1 := by omega
          have h3z : (b2.size : Int) - 1 ≤ (b2.size : Int) := by omega
          subst ha
          go_wp2_with fail
          go_meet
          case rel => exact ⟨rfl, hd5⟩
      obtain ⟨rfl, hX9⟩ := hcut
      clear hq HXb
      go_upto_region 11 with (fail)
      go_cut [68] (fun v68 wc => v68 = .bool false ∧ Hid (DirRel w w1.heap.size (.slice (some A) es.length c2) es wc c))
      case first =>
        by_cases hm : nm.toList = [109, 97, 120, 45, 115, 116, 97, 108, 101]
        · have hb3 : b3 = true := by
            cases b3 with
            | true => rfl
            | false => exact absurd ⟨hm, rfl⟩ HMS.out
          subst hb3
          have hm1 : (nm.toList == [109, 97, 120, 45, 115, 116, 97, 108, 101]) = true := beq_iff_eq.mpr hm
          clear hm
          go_wp2_with fail
          go_meet
          case rel => exact ⟨rfl, hX9⟩
        · have hm1 : (nm.toList == [109, 97, 120, 45, 115, 116, 97, 108, 101]) = false := beq_eq_false_iff_ne.mpr hm
          clear hm
          go_wp2_with fail
          go_meet
          case rel => exact ⟨rfl, hX9⟩
      clear hX9
      obtain ⟨rfl, hX9⟩ := hcut
      clear HMS
      have hl1 := look_run Tryd.underlying67 Tryd.underlying9 (zero_of_info (P := Tryd.prog) (t := 66) (v := .pointer none) (n := 1) (by kernel_rfl)).1 hX9.out.fl nm
      rw [valIn_tab] at hl1
      go_upto_if 74 with (fail)
      go_cut [11] (fun v11 wc => Hid (DirRel w w1.heap.size (.slice (some A) es.length c2) es wc (flagStep c nm)))
      case first =>
        cases ht : tabIx nm flagTab with
        | none =>
          rw [ht] at hl1
          have HT := Lib.hid ht
          clear ht
          go_wp2_with fail
          go_meet
          case rel => rw [flagStep_none HT.out]; exact hX9
        | some j =>
          have hj := flag_lt ht
          rw [ht] at hl1
          have g1 := hX9.out.ctl.cell j (by omega)
          have g2 := hX9.out.ctl.free j
          have hX10 := Lib.hid (hX9.out.only (Only.setCell _) (hX9.out.ctl.setFl hj))
          have HT := Lib.hid ht
          clear ht
          rw [show ctlCell c j = .bool (c.fl j) by simp [ctlCell, hj]] at g1
          go_wp2_with fail
          go_meet
          case rel => rw [flagStep_some HT.out]; exact hX10
      clear hX9 hl1
      generalize hc1 : (flagStep c nm) = c1 at hcut
      have hX11 := hcut
      clear hcut
      have hd := HDD.out
      rw [hc1] at hd
      have hl2 := look_run Tryd.underlying69 Tryd.underlying9 (zero_of_info (P := Tryd.prog) (t := 68) (v := .pointer none) (n := 1) (by kernel_rfl)).1 hX11.out.nm nm
      rw [valIn_tab, ← HZ.out] at hl2
      go_upto_if 81 with (fail)
      cases ht : tabIx nm numTab with
      | none =>
        rw [ht] at hl2 hd
        obtain rfl := Option.some.inj hd
        clear hc1 ht hd HDD
        go_wp2_with fail
        go_round
        case rel => exact ⟨k + 1, _, by omega, by simp, hX11, HRR⟩
        case measure => simp [intOf]; omega
      | some j =>
        have hj := num_lt ht
        rw [ht] at hl2 hd
        have HD2 := Lib.hid hd
        clear hc1 ht hd HDD
        go_wp2_with fail
        refine (argument_any kr _ j c1 c' a _ hj hX11.out.ctl HD2.out).mono ?_
        rintro e w5 ⟨⟨v5, rfl⟩, hc5, ho5⟩
        have hX12 := Lib.hid (hX11.out.only ho5 hc5)
        clear hc5 ho5
        go_wp2_with fail
        go_round
        case rel => exact ⟨k + 1, _, by omega, by simp, hX12, HRR⟩
        case measure => simp [intOf]; omega
    · have hltz : ¬ (k : Int) < (es.length : Int) := by omega
      obtain rfl : k = es.length := by omega
      obtain rfl : c = ce := by simpa [dirAll] using hA.out
      have hB : wr.heap[w.heap.size + 1]? = some (.cells (ctlCells c) 42 (0, 0)) := hR.out.ctl
      have hr := hR.out.res
      have HB := Lib.hid hB
      have HS := Lib.hid hr
      clear hB hr
      have hst := ctl_store Tryd.prog wr w.heap.size _ rfl _ c HS.out
      go_wp2_with (first | (refine wpList_load_row rfl _ _ rfl (w.heap.size + 1) rfl _ _ (0, 0) _ HB.out Tryd.underlying42 rfl (by kernel_rfl) ?_))
      refine bodyPost_ret (results_cell_row rfl _ _ w.heap.size _ (ctlCells c) (0, 0) _ rfl (setRow_heap _ _ _ _ _ _ HS.out) Tryd.underlying42 rfl (by kernel_rfl)) rfl ⟨rfl, ?_⟩
      exact below_setRow (hR.out.below) (Nat.le_refl _) _
theorem field_Directives.calls (k : Nat) (A0 : Option Addr) (c0 : Nat) (l0 : List (S45)) (r1 : Bool) (r2 : Bool) (r3 : Bool) (r4 : Bool) (r5 : Bool) (r6 : Bool) (r7 : Int) (r8 : Int) (r9 : Int) (r10 : Int) (r11 : Int) (r12 : Int) (w : World) (hr0 : Kd.C k45 w A0 l0.length l0) (hc0 : l0.length ≤ c0)
    (h : field_Directives.f k l0 = some (r1, r2, r3, r4, r5, r6, r7, r8, r9, r10, r11, r12)) :
    Calls Tryd.prog 14 #[.slice A0 l0.length c0] w fun e w' => e = .returned (.agg #[.bool r1, .bool r2, .bool r3, .bool r4, .bool r5, .bool r6, .int .i64 r7, .int .i64 r8, .int .i64 r9, .int .i64 r10, .int .i64 r11, .int .i64 r12]) ∧ Below w.heap.size w w' := by
  unfold field_Directives.f at h
  obtain ⟨vs, hvs, h⟩ := Option.bind_eq_some_iff.1 h
  obtain ⟨es, hes, h⟩ := Option.bind_eq_some_iff.1 h
  obtain ⟨ce, hce, h⟩ := Option.bind_eq_some_iff.1 h
  simp only [Option.some.injEq, Prod.mk.injEq] at h
  obtain ⟨rfl, rfl, rfl, rfl, rfl, rfl, rfl, rfl, rfl, rfl, rfl, rfl⟩ := h
  exact dir_any k A0 c0 l0 vs es ce w hr0 hc0 hvs hes hce
end Go.Proofs.YtnafocahllmpiaaDoor.P
