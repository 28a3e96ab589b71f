/- An argument that is a row of texts: what it reads as, and its bulk. -/
import Derived.Test.YtnafocahllmpiaaDoorElem
import Derived.Test.YtnafocahllmpiaaDoorLaid
import Derived.SliceStrings
import Derived.ChangeOld
import Derived.Below
import Derived.SizedLaws
namespace Go.Proofs.YtnafocahllmpiaaDoor.Pure
open Go.ChangeShapes Go.WideShapes Go.ChangeAt Go.RowKit Go.Proofs.YtnafocahllmpiaaDoor.P Go.Proofs.YtnafocahllmpiaaDoorW.PrintWords
theorem bulk_strs {H : Type} : ∀ l : List ByteArray, Rows.uptoBulkAll (H := H) (strs l) = total l + l.length
  | [] => rfl
  | s :: l => by
    have ih := bulk_strs (H := H) l
    have h := size_data s
    simp only [strs, List.map_cons, Rows.uptoBulkAll, Rows.uptoBulk, total, List.sum_cons, List.length_cons] at *
    omega
theorem arg_strings {H : Type} {enc : TypeId × Value → H} {W : World} {v : Value} {d : DataW H} {p : List MemPlace} {A : Option Addr} {n c : Nat} (hv : v = .slice A n c) (h : DataW.Trod enc Tryd.prog W 0 (fun _ => true) true 22 v d p) :
    ∃ l : List ByteArray, n = l.length ∧ l.length ≤ c ∧ Kd.C Kd.string W A l.length l ∧ total l + l.length ≤ Rows.uptoBulk d := by
  subst hv
  obtain ⟨fuel, hf⟩ := h
  rcases open_strings Tryd.underlying22 Tryd.underlying9 (by kernel_rfl) hf with ⟨hcs, hx⟩ | ⟨a, len, cap, ss, hcs, _, hl, hm, hss, hx, hcell, hwz⟩
  · simp [Value.cells] at hcs
    obtain ⟨rfl, rfl, rfl⟩ := hcs
    simp only [Prod.mk.injEq] at hx
    obtain ⟨rfl, rfl⟩ := hx
    refine ⟨[], rfl, Nat.le_refl _, Kd.C_of_reads (d := ByteArray.empty) ⟨rfl, by decide, fun h => absurd h (by decide)⟩, ?_⟩
    simp [total, Rows.uptoBulk]
  · simp [Value.cells] at hcs
    obtain ⟨rfl, rfl, rfl⟩ := hcs
    simp only [Prod.mk.injEq] at hx
    obtain ⟨rfl, rfl⟩ := hx
    have hlen : (ss.take n).length = n := by
      rw [List.length_take, hss]
      simp
      omega
    refine ⟨ss.take n, hlen.symm, by omega, ?_, ?_⟩
    · rw [hlen]
      refine Kd.C_of_reads (d := ByteArray.empty) ⟨hlen, by simp only [maxLen] at hm; omega, fun _ => ⟨_, rfl, fun j hj => ?_⟩⟩
      have hj2 : j < ss.length := by rw [List.length_take] at hlen; omega
      rw [hcell j hj2]
      simp [List.getD_eq_getElem?_getD, List.getElem?_take, hj]
    · simp only [Rows.uptoBulk]
      rw [bulk_strs]
      omega
theorem laidOut : laidOutB Tryd.prog = true := by kernel_rfl
end Go.Proofs.YtnafocahllmpiaaDoor.Pure
