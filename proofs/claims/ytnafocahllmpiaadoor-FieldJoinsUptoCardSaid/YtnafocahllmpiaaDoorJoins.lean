/- FieldJoins: the walk, over the facts on elements. -/
import Derived.Test.YtnafocahllmpiaaDoorJoinsP
import Derived.Test.YtnafocahllmpiaaDoorExtS
import Derived.Maps.AppendAt
import Derived.Laws.OwnMore
namespace Go.Proofs.YtnafocahllmpiaaDoor.P
open Go.RowKit Go.Shelf Go.Proofs.YtnafocahllmpiaaDoorW.PrintWords
theorem drawn_trans {a b c : World} (h : Drawn0 a b) (k : Drawn0 b c) : Drawn0 a c := by
  obtain ⟨n, rfl⟩ := k
  exact h.step n
section
variable {P : Program} {ops : Array Oper} {rest : List Oper} {o : Oper} {a : Act} {Q : Exit → Act → World → Prop}
theorem ev_append (hgd : o.guard = none) (s x : Operand) (t : TypeId) (ho : o.op = .call { callee := .builtin .append, args := #[s, x], argTypes := #[t, t] }) {v u r : Value} {W w1 : World} (hs : a.eval s = v) (hx : a.eval x = u)
    (hr : (Builtin.append_ #[t, t] o.type #[v, u]).run P W = .ok r w1) (h : wpList P ops Q rest (a.put o.dst r) w1) : wpList P ops Q (o :: rest) a W := by
  refine wpList_plain hgd fun K hK => ?_
  unfold Oper.wp execOp
  simp only [ho, resolve, invoke, builtin, Sem.run_bind, Sem.run_pure, Result.andThen_ok, List.map_toArray, List.map_cons, List.map_nil, hs, hx, hr]
  exact hK _ _ h
end
/-- A row of texts, with the texts of another behind it. -/
theorem app_run {W : World} {base : Nat} {v : Value} {xs : List ByteArray} (HO : W.ownsRow base 9 1 v xs.length (encs Value.string xs)) (hbase : base ≤ W.heap.size) {A : Option Addr} {c : Nat} {ys : List ByteArray}
    (HC : Kd.C Kd.string W A ys.length ys) (hl : xs.length + ys.length ≤ 8796093022208) (ty : TypeId) :
    ∃ v' w', (Builtin.append_ #[22, 22] ty #[v, .slice A ys.length c]).run Tryd.prog W = .ok v' w' ∧ w'.ownsRow base 9 1 v' (xs ++ ys).length (encs Value.string (xs ++ ys)) ∧ Below base W w' := by
  have hz : (Tryd.prog.info? 9).map (fun i => (i.zero, i.size, i.bytes)) = some (some (.string ByteArray.empty), 1, 16) := by kernel_rfl
  obtain ⟨i0, hi, hzz⟩ := Option.map_eq_some_iff.1 hz
  simp only [Prod.mk.injEq] at hzz
  obtain ⟨hz0, hz1, hz2⟩ := hzz
  have HR := Kd.reads_of_C (enc := Value.string) (d := ByteArray.empty) (h1 := fun _ => rfl) HC
  have fin : ∀ a : Addr, (∀ j, j < ys.length → W.cell? (a.add j) = some (.string (ys.getD j ByteArray.empty))) → ∃ v' w', (Builtin.append_ #[22, 22] ty #[v, .slice (some a) ys.length c]).run Tryd.prog W = .ok v' w' ∧ w'.ownsRow base 9 1 v' (xs ++ ys).length (encs Value.string (xs ++ ys)) ∧ Below base W w' := by
    intro a hc
    obtain ⟨v', w', hr, hown, hg, _, hat⟩ := run_append_own_at (P := Tryd.prog) W base 22 ty 9 i0 (.string ByteArray.empty) 1 16 Tryd.underlying22 hi hz0 hz1 hz2 rfl (by decide) v xs.length (encs Value.string xs) HO
      a ys.length c (encs Value.string ys) (by simp [encs]) (fun j u hu => by
        have hj : j < ys.length := by
          have := (List.getElem?_eq_some_iff.1 hu).1
          simpa [encs] using this
        rw [hc j hj]
        rw [← hu, encs_get (d := ByteArray.empty) ys j hj]) (by
        intro u hu
        simp only [encs, List.mem_map] at hu
        obtain ⟨x, _, rfl⟩ := hu
        rfl) (by simp only [maxLen]; omega) (by omega) hbase
    refine ⟨v', w', hr, ?_, ?_⟩
    · rw [encs_append, List.length_append]
      exact hown
    · refine pw_below_grown (Below.refl _ _) _ hbase hg (fun k hk => ?_)
      rcases HO.2 with ⟨rfl, _⟩ | ⟨g, cap, cur, rfl, hb, _⟩
      · simp [Value.ownBlock] at hk
      · simp [Value.ownBlock] at hk
        omega
  cases A with
  | some a =>
    by_cases h0 : ys.length = 0
    · exact fin a (fun j hj => by omega)
    · obtain ⟨a', ha, hc⟩ := HR.2.2 (by omega)
      obtain rfl := Option.some.inj ha
      exact fin a hc
  | none =>
    have h0 : ys.length = 0 := by
      by_cases h0 : ys.length = 0
      · exact h0
      · obtain ⟨a', ha, _⟩ := HR.2.2 (by omega)
        cases ha
    obtain rfl := List.eq_nil_of_length_eq_zero h0
    refine ⟨v, W, ?_, by simpa using HO, Below.refl _ _⟩
    have ht := Tryd.underlying22
    rcases HO.2 with ⟨rfl, _⟩ | ⟨g, cap, cur, rfl, _, _, hnc, _⟩
    · simp [Builtin.append_, run_underlying ht, sizeOf, typeInfo, hi, Builtin.lenOf, Builtin.firstCells]
    · simp [Builtin.append_, run_underlying ht, sizeOf, typeInfo, hi, Builtin.lenOf, Builtin.firstCells, hnc, storeCells]
/-- The texts one behind the other, so far. -/
def jn : Nat → ByteArray → List ByteArray → ByteArray
  | _, s, [] => s
  | i, s, e :: r => jn (i + 1) ((if 0 < i then s ++ ⟨#[32, 44, 44, 32]⟩ else s) ++ e) r
def opn (e : ByteArray) : Bool := (Pure.fin false false e.data.toList).1
theorem jn_size : ∀ (l : List ByteArray) (i : Nat) (s : ByteArray), s.size ≤ (jn i s l).size ∧ ∀ e ∈ l, e.size ≤ (jn i s l).size
  | [], _, _ => ⟨Nat.le_refl _, fun _ h => by cases h⟩
  | e :: r, i, s => by
    obtain ⟨h1, h2⟩ := jn_size r (i + 1) ((if 0 < i then s ++ ⟨#[32, 44, 44, 32]⟩ else s) ++ e)
    have h3 : s.size + e.size ≤ ((if 0 < i then s ++ ⟨#[32, 44, 44, 32]⟩ else s) ++ e).size := by
      split <;> simp only [ByteArray.size_append] <;> omega
    unfold jn
    refine ⟨by omega, fun x hx => ?_⟩
    cases hx with
    | head => omega
    | tail _ hx => exact h2 x hx
theorem jn_drop (xs : List ByteArray) (i : Nat) (s : ByteArray) (h : i < xs.length) : jn i s (xs.drop i) = jn (i + 1) ((if 0 < i then s ++ ⟨#[32, 44, 44, 32]⟩ else s) ++ xs.getD i ByteArray.empty) (xs.drop (i + 1)) := by
  rw [List.drop_eq_getElem_cons h, jn]
  simp [List.getD_eq_getElem?_getD, List.getElem?_eq_getElem h]
theorem row_elem {wr : World} {base : Nat} {ad : Option Addr} {c0 : Nat} {es : List ByteArray} (h : Kd.R Kd.string 9 wr base (fun _ => True) (.slice ad es.length c0) es) (k : Nat) (hk : k < es.length) :
    ∃ a, ad = some a ∧ wr.cell? (a.add k) = some (.string (es.getD k ByteArray.empty)) := by
  obtain ⟨A', c', e, _, hC⟩ := Kd.R_reads h
  injection e with e1 e2 e3
  subst e1
  obtain ⟨a, ha, hc⟩ := (Kd.reads_of_C (enc := Value.string) (d := ByteArray.empty) (h1 := fun _ => rfl) hC).2.2 (by omega)
  exact ⟨a, ha, hc k hk⟩
theorem fin_two (r : List UInt8) : (Pure.fin true true r).1 = (Pure.fin true false (r.drop 1)).1 := by
  cases r with
  | nil => rfl
  | cons c r => rw [Pure.fin_cons, if_pos rfl]; rfl
set_option maxHeartbeats 2000000 in
set_option maxRecDepth 100000 in
theorem joins_any (kr : Nat) (A0 A1 : Option Addr) (c0 c1 : Nat) (l0 l1 x y : List ByteArray) (w : World) (hr0 : Kd.C Kd.string w A0 l0.length l0) (hc0 : l0.length ≤ c0) (hr1 : Kd.C Kd.string w A1 l1.length l1) (hc1 : l1.length ≤ c1)
    (hx : field_Elements.f kr l0 = some x) (hy : field_Elements.f kr l1 = some y) (hall : field_Elements.f kr (l0 ++ l1) = some (x ++ y)) (htx : turnbuckleref17_Texts.f kr (x ++ y) (x ++ y) = some true)
    (hal : turnbucklelaw17_alive.f kr = some true) (hj : (∀ e ∈ x, opn e = false) → field_Elements.f kr [jn 0 ⟨#[]⟩ x] = some x) (ht : turnbuckleref17_Texts.f kr x x = some true)
    (hsz : (jn 0 ⟨#[]⟩ x).size ≤ 140737488355328) (hl : l0.length + l1.length ≤ 8796093022208) (hxy : x.length + y.length ≤ 8796093022208) :
    Calls Tryd.prog 3 #[.slice A0 l0.length c0, .slice A1 l1.length c1] w fun e w' => e = .returned (.bool true) ∧ Below w.heap.size w w' := by
  have HR0 := Lib.hid hr0
  have HR1 := Lib.hid hr1
  have HC0 := Lib.hid hc0
  have HC1 := Lib.hid hc1
  have HX := Lib.hid hx
  have HY := Lib.hid hy
  have HALL := Lib.hid hall
  have HTX := Lib.hid htx
  have HAL := Lib.hid hal
  have HJ := Lib.hid hj
  have HT := Lib.hid ht
  have HSZ := Lib.hid hsz
  clear hr0 hr1 hc0 hc1 hx hy hall htx hal hj ht hsz
  go_enter Tryd.func3, Tryd.ntmps3
  go_wp2_with fail
  refine (field_Elements.calls kr A0 c0 l0 x _ HR0.out HC0.out HX.out).mono ?_
  rintro e w1 ⟨v1, rfl, ho1, hb1⟩
  obtain ⟨A2, c2, rfl, hl1, hC1⟩ := Kd.R_reads ho1
  have HO1 := Lib.hid ho1
  have HL1 := Lib.hid hl1
  have HB1 := Lib.hid hb1
  clear ho1 hl1 hC1 hb1
  go_wp2_with fail
  refine (field_Elements.calls kr A1 c1 l1 y _ (Kd.C_below HR1.out HB1.out) HC1.out HY.out).mono ?_
  rintro e w2 ⟨v2, rfl, ho2, hb2⟩
  obtain ⟨A3, c3, rfl, hl2, hC2⟩ := Kd.R_reads ho2
  have HO2 := Lib.hid ho2
  have HL2 := Lib.hid hl2
  have HB2 := Lib.hid hb2
  have HO1b := Lib.hid (Kd.R_below HO1.out hb2)
  clear ho2 hl2 hC2 hb2 HO1
  have nil2 : w2.ownsRow w2.heap.size 9 1 (.slice none 0 0) ([] : List ByteArray).length (encs Value.string []) := ⟨rfl, .inl ⟨rfl, rfl⟩⟩
  obtain ⟨v3, w3, p3, o3, b3⟩ := app_run nil2 (Nat.le_refl _) (c := c0) (Kd.C_below (Kd.C_below HR0.out HB1.out) HB2.out) (by simp; omega) 22
  rw [List.nil_append] at o3
  obtain ⟨v4, w4, p4, o4, b4⟩ := app_run o3 b3.size (c := c1) (Kd.C_below (Kd.C_below (Kd.C_below HR1.out HB1.out) HB2.out) b3) (by omega) 22
  have HO4 := Kd.R_of_own (h1 := fun _ => rfl) (ok := fun _ => True) o4 (fun _ _ => trivial)
  obtain ⟨A4, c4, rfl, hl4, hC4⟩ := Kd.R_reads HO4
  have B24 := Lib.hid (b3.trans b4)
  have C4 := Lib.hid hC4
  have L4 := Lib.hid hl4
  clear HO4 hl4 hC4 o3 o4 nil2
  have P3 := Lib.hid p3
  have P4 := Lib.hid p4
  clear p3 p4
  go_wp2_with (first | ((with_reducible refine gate_dst (N := 18) rfl ?_); refine ev_append rfl _ _ _ rfl rfl rfl P3.out ?_) | ((with_reducible refine gate_dst (N := 20) rfl ?_); refine ev_append rfl _ _ _ rfl rfl rfl P4.out ?_))
  clear P3 P4
  have CE := field_Elements.calls kr A4 c4 (l0 ++ l1) (x ++ y) _ C4.out L4.out HALL.out
  rw [List.length_append] at CE
  refine CE.mono ?_
  clear CE
  rintro e w5 ⟨v5, rfl, ho5, hb5⟩
  obtain ⟨A5, c5, rfl, hl5, hC5⟩ := Kd.R_reads ho5
  have hx5 := Kd.R_below (Kd.R_below HO1b.out B24.out) hb5
  have hy5 := Kd.R_below (Kd.R_below HO2.out B24.out) hb5
  have n5 : w5.ownsRow w5.heap.size 9 1 (.slice none 0 0) ([] : List ByteArray).length (encs Value.string []) := ⟨rfl, .inl ⟨rfl, rfl⟩⟩
  obtain ⟨v6, w6, p6, o6, b6⟩ := app_run n5 (Nat.le_refl _) (c := c2) (Kd.R_reads' hx5).2.2 (by simp; omega) 22
  rw [List.nil_append] at o6
  obtain ⟨v7, w7, p7, o7, b7⟩ := app_run o6 b6.size (c := c3) (Kd.C_below (Kd.R_reads' hy5).2.2 b6) (by omega) 22
  have HO7 := Kd.R_of_own (h1 := fun _ => rfl) (ok := fun _ => True) o7 (fun _ _ => trivial)
  obtain ⟨A7, c7, rfl, hl7, hC7⟩ := Kd.R_reads HO7
  have B57 := Lib.hid (b6.trans b7)
  have C7 := Lib.hid hC7
  have L7 := Lib.hid hl7
  have C5 := Lib.hid (Kd.C_below hC5 B57.out)
  have L5 := Lib.hid hl5
  have HX7 := Lib.hid (Kd.R_below hx5 B57.out)
  have BB := Lib.hid (below_step (below_then (below_step (below_step (Below.refl w.heap.size w) HB1.out) HB2.out) (by have := HB1.out.size; have := HB2.out.size; omega) B24.out) hb5)
  have BB7 := Lib.hid (below_step BB.out B57.out)
  have P6 := Lib.hid p6
  have P7 := Lib.hid p7
  clear p6 p7 o6 o7 n5 HO7 hl7 hC7 b6 b7 hx5 hy5 hb5 hC5 hl5 ho5 BB B57 B24 HO1b HO2 HB2 HB1
  go_wp2_with (first | ((with_reducible refine gate_dst (N := 24) rfl ?_); refine ev_append rfl _ _ _ rfl rfl rfl P6.out ?_) | ((with_reducible refine gate_dst (N := 26) rfl ?_); refine ev_append rfl _ _ _ rfl rfl rfl P7.out ?_))
  clear P6 P7
  have CT := turnbuckleref17_Texts.calls kr A5 c5 (x ++ y) A7 c7 (x ++ y) true _ C5.out L5.out C7.out L7.out HTX.out
  rw [List.length_append] at CT
  refine CT.mono ?_
  clear CT
  rintro e w8 ⟨rfl, ⟨n8, rfl⟩⟩
  have HXd := Lib.hid (show Kd.R Kd.string 9 (w7.drewN n8) w.heap.size (fun _ => True) (.slice A2 x.length c2) x from Kd.R_below HX7.out (pw_below_drewN (Below.refl _ _) n8))
  have BBd := Lib.hid (pw_below_drewN BB7.out n8)
  have hxl : x.length ≤ 8796093022208 := by omega
  clear HX7 BB7 C5 L5 C7 L7 HTX HALL HX HY C4 L4 HC0 HC1 HR0 HR1
  generalize w7.drewN n8 = w8 at HXd BBd ⊢
  go_wp2_with fail
  go_loopw [31, 8] (fun i sv wr => ∃ (k : Nat) (s : ByteArray), k ≤ x.length ∧ i = .int .i64 k ∧ sv = .string s ∧ Hid (jn k s (x.drop k) = jn 0 ⟨#[]⟩ x) ∧ Hid (∀ e ∈ x.take k, opn e = false) ∧ Hid (Kd.R Kd.string 9 wr w.heap.size (fun _ => True) (.slice A2 x.length c2) x) ∧ Hid (Below w.heap.size w wr)) (fun i _ _ => x.length - (intOf i).toNat)
  case atStart => exact ⟨0, ⟨#[]⟩, Nat.zero_le _, rfl, rfl, Lib.hid (by simp), Lib.hid (by simp), HXd, BBd⟩
  case round =>
    obtain ⟨k, s, hk, rfl, rfl, hJN, hOP, hR, hB⟩ := hrel
    by_cases hlt : k < x.length
    · have hltz : (k : Int) < (x.length : Int) := by omega
      obtain ⟨A, rfl, hcell⟩ := row_elem hR.out k hlt
      have hjn := hJN.out
      rw [jn_drop _ _ _ hlt] at hjn
      have hmem : x.getD k ByteArray.empty ∈ x := by
        rw [List.getD_eq_getElem?_getD, List.getElem?_eq_getElem hlt]
        exact List.getElem_mem hlt
      have htk : x.take (k + 1) = x.take k ++ [x.getD k ByteArray.empty] := by
        rw [List.take_succ_eq_append_getElem hlt, List.getD_eq_getElem?_getD, List.getElem?_eq_getElem hlt]
        rfl
      have hes := (jn_size x 0 ⟨#[]⟩).2 _ hmem
      have hss := (jn_size (x.drop k) k s).1
      rw [hJN.out] at hss
      have hsb := HSZ.out
      generalize x.getD k ByteArray.empty = e at hcell hjn hmem htk hes
      have HMEM := Lib.hid hmem
      have HTK := Lib.hid htk
      have HJ2 := Lib.hid hjn
      have hE : e.size ≤ 140737488355328 := by omega
      have hS : s.size ≤ 140737488355328 := by omega
      clear hjn hmem htk hes hss hsb
      go_wp2_with fail
      go_loopw [11, 12] (fun o j wj => ∃ (q : Bool) (m : Nat), o = .bool q ∧ j = .int .i64 m ∧ m ≤ e.size + 1 ∧ Hid ((Pure.fin q false (e.data.toList.drop m)).1 = opn e) ∧ Drawn0 wr wj) (fun _ j _ => e.size + 2 - (intOf j).toNat)
      case atStart => exact ⟨false, 0, rfl, rfl, by omega, Lib.hid rfl, Drawn0.refl _⟩
      case round =>
        obtain ⟨q, m, rfl, rfl, hm, hQ, hd⟩ := hrel
        by_cases hme : m < e.size
        · have hmz : (m : Int) < (e.size : Int) := by omega
          have hml : m < e.data.toList.length := by rw [← Pure.size_data]; exact hme
          have hq := hQ.out
          rw [List.drop_eq_getElem_cons hml, Pure.fin_cons, if_neg (by decide)] at hq
          obtain ⟨n, hn⟩ : ∃ n : Int, n = ((e.data.toList[m]).toNat : Int) := ⟨_, rfl⟩
          have hx : ∀ h : m < e.size, ((e[m]'h).toNat : Int) = n := fun h => hn.symm
          have nc : ∀ v : UInt8, (e.data.toList[m] = v ↔ n = (v.toNat : Int)) := fun v => by
            rw [hn]
            constructor
            · intro h; rw [h]
            · intro h; exact UInt8.toNat_inj.1 (by omega)
          have n92 := nc 92
          have n34 := nc 34
          have e92 : ((92 : UInt8).toNat : Int) = 92 := rfl
          have e34 : ((34 : UInt8).toNat : Int) = 34 := rfl
          rw [e92] at n92
          rw [e34] at n34
          simp only [n92, n34] at hq
          have HQ := Lib.hid hq
          clear hq hQ nc n92 n34 e92 e34 hn
          by_cases hA : q = true ∧ n = 92
          · obtain ⟨rfl, rfl⟩ := hA
            have hq := HQ.out
            rw [if_pos ⟨rfl, rfl⟩] at hq
            have HQ2 := Lib.hid hq
            clear hq HQ
            go_wp2_with fail
            go_round
            case measure => simp [intOf]; omega
            case rel => exact ⟨true, m + 2, rfl, by simp; omega, by omega, Lib.hid (by rw [← HQ2.out, fin_two]; rw [List.drop_drop]), hd⟩
          have hq := HQ.out
          rw [if_neg hA] at hq
          by_cases hB : n = 34
          · subst hB
            rw [if_pos rfl] at hq
            have HQ2 := Lib.hid hq
            clear hq HQ
            cases q
            · go_wp2_with fail
              go_round
              case measure => simp [intOf]; omega
              case rel => exact ⟨true, m + 1, rfl, by simp, by omega, Lib.hid HQ2.out, hd⟩
            · go_wp2_with fail
              go_round
              case measure => simp [intOf]; omega
              case rel => exact ⟨false, m + 1, rfl, by simp, by omega, Lib.hid HQ2.out, hd⟩
          · rw [if_neg hB] at hq
            have HQ2 := Lib.hid hq
            clear hq HQ
            have b34 : (n == 34) = false := beq_eq_false_iff_ne.2 hB
            cases q
            · go_wp2_with fail
              go_round
              case measure => simp [intOf]; omega
              case rel => exact ⟨false, m + 1, rfl, by simp, by omega, Lib.hid HQ2.out, hd⟩
            · have hC : ¬ n = 92 := fun h => hA ⟨rfl, h⟩
              have b92 : (n == 92) = false := beq_eq_false_iff_ne.2 hC
              go_wp2_with fail
              go_round
              case measure => simp [intOf]; omega
              case rel => exact ⟨true, m + 1, rfl, by simp, by omega, Lib.hid HQ2.out, hd⟩
        · have hmz : ¬ (m : Int) < (e.size : Int) := by omega
          have hq := hQ.out
          rw [List.drop_of_length_le (by rw [← Pure.size_data]; omega)] at hq
          have HQ3 := Lib.hid (show q = opn e from hq)
          clear hq hQ
          obtain ⟨nd, rfl⟩ := hd
          cases q with
          | true =>
            go_wp2_with fail
            refine (turnbucklelaw17_alive.calls kr true _ HAL.out).mono ?_
            rintro e9 w9 ⟨rfl, hb9⟩
            go_wp2_with fail
            go_ret
            exact ⟨rfl, below_step (pw_below_drewN hB.out nd) hb9⟩
          | false =>
            have hjn := HJ2.out
            have hop : ∀ e' ∈ x.take (k + 1), opn e' = false := by
              rw [HTK.out]
              intro e' he
              rcases List.mem_append.1 he with he | he
              · exact hOP.out e' he
              · rw [List.mem_singleton.1 he, ← HQ3.out]
            have HOP2 := Lib.hid hop
            clear hop
            by_cases hk0 : 0 < k
            · have hkz : (0 : Int) < (k : Int) := by omega
              rw [if_pos hk0] at hjn
              have HJ3 := Lib.hid hjn
              clear hjn
              go_wp2_with fail
              go_round
              case measure => simp [intOf]; omega
              case rel => exact ⟨k + 1, _, by omega, by simp, rfl, HJ3, HOP2, Lib.hid (Kd.R_below hR.out (pw_below_drewN (Below.refl _ _) nd)), Lib.hid (pw_below_drewN hB.out nd)⟩
            · have hkz : ¬ (0 : Int) < (k : Int) := by omega
              rw [if_neg hk0] at hjn
              have HJ3 := Lib.hid hjn
              clear hjn
              go_wp2_with fail
              go_round
              case measure => simp [intOf]; omega
              case rel => exact ⟨k + 1, _, by omega, by simp, rfl, HJ3, HOP2, Lib.hid (Kd.R_below hR.out (pw_below_drewN (Below.refl _ _) nd)), Lib.hid (pw_below_drewN hB.out nd)⟩
    · have hltz : ¬ (k : Int) < (x.length : Int) := by omega
      obtain rfl : k = x.length := by omega
      have hjn := hJN.out
      rw [List.drop_length] at hjn
      have hs : s = jn 0 ⟨#[]⟩ x := hjn
      have hop := hOP.out
      rw [List.take_length] at hop
      have HEL := Lib.hid (HJ.out hop)
      rw [← hs] at HEL
      have hSz := HSZ.out
      rw [← hs] at hSz
      clear hjn hs hop hJN hOP HJ HSZ
      have hsp : (List.replicate 1 s).length = 1 := rfl
      go_wp2_with (first | ((with_reducible refine gate_dst (N := 68) rfl ?_); refine Kd.R_lit Kd.string _ 9 ?hg (N := 68) ?hd (xs := ([s] : List ByteArray)) (inner := [.string s]) (ok := fun _ => True) (okp := fun _ => True) ?hr ?hp (fun _ hk => hk) trivial (Below.refl _ _) (Nat.le_refl _) (by simp) ?_; (case hd => rfl); (case hg => rfl); (case hr => first | (go_simp; done) | (go_simp; rfl)); (case hp => exact (Reps.one (show Kd.M Kd.string _ _ _ s [.string s] from rfl) (Reps.none _ _))); intro v68 w68 ho68 hb68 _ _; obtain ⟨A68, c68, eo68⟩ := Kd.R_slice ho68; subst eo68))
      refine (field_Elements.calls kr A68 c68 [s] x _ (Kd.R_reads' ho68).2.2 (Kd.R_reads' ho68).2.1 HEL.out).mono ?_
      rintro e9 w9 ⟨v9, rfl, ho9, hb9⟩
      obtain ⟨A9, c9, rfl, hl9, hC9⟩ := Kd.R_reads ho9
      have hx9 := Kd.R_below (Kd.R_below hR.out hb68) hb9
      have HX9 := Lib.hid hx9
      have HL9 := Lib.hid hl9
      have HC9 := Lib.hid hC9
      have HB9 := Lib.hid (below_step (below_step hB.out hb68) hb9)
      clear ho9 hb9 hl9 hC9 hx9 ho68 hb68 hR hB HEL
      go_wp2_with fail
      refine (turnbuckleref17_Texts.calls kr A9 c9 x A2 c2 x true _ HC9.out HL9.out (Kd.R_reads' HX9.out).2.2 (Kd.R_reads' HX9.out).2.1 HT.out).mono ?_
      rintro e8 w10 ⟨rfl, ⟨n10, rfl⟩⟩
      go_wp2_with fail
      refine (turnbucklelaw17_alive.calls kr true _ HAL.out).mono ?_
      rintro e7 w11 ⟨rfl, hb11⟩
      go_wp2_with fail
      go_ret
      exact ⟨rfl, below_step (pw_below_drewN HB9.out n10) hb11⟩
end Go.Proofs.YtnafocahllmpiaaDoor.P
