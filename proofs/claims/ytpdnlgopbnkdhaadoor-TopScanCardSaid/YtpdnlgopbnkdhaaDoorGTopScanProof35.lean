/- TopScan answers true for all inputs, where the listed variables read as the program's text lays them; the card ties that. Condition: laid. -/
import Derived.Test.YtpdnlgopbnkdhaaDoorGTopScanProof32
import Derived.Test.YtpdnlgopbnkdhaaDoorGTopScanProof20
import Derived.Test.YtpdnlgopbnkdhaaDoorGTopScanProof31
import Derived.Test.YtpdnlgopbnkdhaaDoorGTopScanProof34
import Derived.Test.YtpdnlgopbnkdhaaDoorGTopScanProof15
import Derived.Test.YtpdnlgopbnkdhaaDoorTie
import Derived.Test.YtpdnlgopbnkdhaaDoorCards
import Derived.ProofKit
import Derived.LaidMore
import Derived.SevenTiedAt
set_option linter.unusedVariables false
set_option linter.unusedSimpArgs false
namespace Go.Proofs.YtpdnlgopbnkdhaaDoor
open Go.ChangeShapes Go.WideShapes Go.ChangeAt Go.RowKit Go.Joins
open Go.ChangeMaps (open_string)
theorem trodAll_zero {H : Type} {enc : TypeId × Value → H} {P : Program} {W : World} {base : Nat} {spare : Nat → Bool} {held : Bool} {args : Array Value} {ds : List (DataW H)} {p : List MemPlace} (h : DataW.TrodAll enc P W base spare held [] args.toList ds p) : args = #[] ∧ ds = [] ∧ p = [] := by
  obtain ⟨l⟩ := args
  cases l with
  | nil => cases ds with
    | nil => exact ⟨rfl, rfl, h⟩
    | cons _ _ => exact h.elim
  | cons _ _ => cases ds <;> exact h.elim
theorem door_met (os : Os) (args : Array Value) : laidMetH Tryd.prog Rows.topScanRow.laid ((World.doorLaid Tryd.prog 72 os).forCall (fun _ _ => 0) ⟨#[], args, []⟩).memory :=
  laidMetH_of_parts3 (fuel := 8) (laidMet_of_run' 8 (by kernel_rfl) (by kernel_rfl)) (by kernel_rfl) (by kernel_rfl)
set_option maxRecDepth 100000 in
theorem topScan_lifted (os : Os) (started : os.Started) (H : Type) (enc : TypeId × Value → H) :
    ReturnsInHanded {} Tryd.checked os 8 .any (fun w args => (Rows.topScanSpec.pre enc Tryd.prog Tryd.f8 [] false w args ∧ laidMetH Tryd.prog Rows.topScanRow.laid w) ∧ sizedMet enc Tryd.prog Tryd.f8 (OpenSpec.ofChange Rows.topScanSpec) false w args)
      (Rows.topScanSpec.post enc Tryd.prog Tryd.f8 false true false false) := by
  refine handed_shaped (C := Tryd.checked) (X := fun w _ => laidMetH Tryd.prog Rows.topScanRow.laid w) (fun _ _ _ hh h => h.of_heap hh) Tryd.own started (by kernel_rfl) Tryd.func8
    (ChangeSpec.witness_shaped (enc := enc) (C := Tryd.checked) (os := os) (X := fun w _ => laidMetH Tryd.prog Rows.topScanRow.laid w) false (World.doorLaid Tryd.prog 72 os) #[.slice none 0 0, .slice none 0 0, .agg #[.string ⟨#[]⟩, .string ⟨#[]⟩], .int .i64 0] 8 rfl (World.shaped_of_RefB (by kernel_rfl) (by kernel_rfl)) (by kernel_rfl) (by kernel_rfl) (by kernel_rfl) (door_met os _)) ?_
  intro W base args ds gs before hval0 hW hL hsh
  have hval : ∀ (j : Nat) t v, Tryd.f8.params[j]? = some t → args[j]? = some v → Value.okWide Tryd.prog W .any base t v := hval0
  have hlt : ∀ x ∈ before, x.block < W.heap.size := fun x hx => by simpa using hW.lt x hx
  obtain ⟨p, q, hA0, hV, rfl, hfz, hnd⟩ := hW
  have hA : DataW.TrodAll enc Tryd.prog W 0 (fun _ => true) true Tryd.f8.params.toList args.toList ds p := hA0
  have hA1 := hA
  rw [Tryd.params8] at hA hval
  obtain ⟨v0, v1, v2, v3, d0, d1, d2, d3, p0, p1, p2, p3, rfl, rfl, rfl, h0, h1, h2, h3⟩ := trodAll_four hA
  obtain ⟨rfl, rfl⟩ := trodVars_none hV
  rw [List.append_nil] at hfz hnd hlt
  obtain ⟨ra, rc, rows, rfl, hrl, hR⟩ := rows_arg (hval 0 51 v0 rfl rfl) h0
  obtain ⟨da, dc, D, rfl, hdl, hD⟩ := deeds_arg (hval 1 33 v1 rfl rfl) h1
  obtain ⟨lo, hi, rfl⟩ := span_arg (hval 2 67 v2 rfl rfl) h2
  obtain ⟨x, rfl, _⟩ := int_arg (hval 3 3 v3 rfl rfl) h3
  refine (topScan_any ra rows.length rc rows da D.length dc D lo hi x W ⟨lib5 hL hsh, hR, hD⟩ rfl rfl hrl hdl).mono fun e W' ⟨he, hx⟩ => ?_
  subst he
  exact ⟨_, rfl, law_post Tryd.laidOut (by kernel_rfl) (by kernel_rfl) Tryd.underlying4 rfl rfl rfl rfl hA1 hfz hnd hlt hx⟩
/-- The row. -/
theorem topScan_row : Rows.TopScanSaid :=
  OpenClaim.holds_of_wide 8 Tryd.f8 rfl rfl rfl rfl rfl rfl rfl ⟨rfl, rfl, rfl, rfl, rfl⟩ rfl rfl rfl rfl rfl (by kernel_rfl) Tryd.func8 (by kernel_rfl)
    (of_decide_eq_true (by kernel_rfl)) (by unfold Func.isWrapper; rw [if_neg (of_decide_eq_false (by kernel_rfl))]; exact ⟨rfl, rfl⟩)
    (fun os started H enc _ => topScan_lifted os started H enc)
/-- The statement: the card. -/
theorem topScan_holds : Rows.TopScanCardSaid :=
  Claim7.holds_tied_plain_at .later [] [.data, .data, .data, .sentinel, .sentinel] true (true, "38b5b1aeeda43a1be9e970b857b86f86643f114fbb77b593e77e662e48712d0d") true
    topScan_row (fun _ h => by cases h) (by kernel_rfl) (fun _ h => by cases h) topScan_row_tie rfl ⟨rfl, rfl⟩ (by kernel_rfl) rfl
    (fun f fn hf hfn => by
      obtain rfl : f = 8 := Option.some.inj ((show Tryd.prog.funcNamed "haywain/haywaintop.TopScan" = some 8 by kernel_rfl).symm.trans hf) |>.symm
      obtain rfl : fn = Tryd.f8 := (Option.some.inj (Tryd.func8.symm.trans hfn)).symm
      exact ⟨by kernel_rfl, fun j t ht => by
        rw [Tryd.params8] at ht
        have hm : t ∈ [51, 33, 67, 3] := by simpa using Array.mem_of_getElem? ht
        have hall : (([51, 33, 67, 3] : List TypeId).all fun u => !Tryd.prog.wantsStandIn u) = true := by kernel_rfl
        exact (show Tryd.prog.wantsStandIn t = false by simpa using List.all_eq_true.1 hall t hm)⟩)
    (by kernel_rfl)
end Go.Proofs.YtpdnlgopbnkdhaaDoor
