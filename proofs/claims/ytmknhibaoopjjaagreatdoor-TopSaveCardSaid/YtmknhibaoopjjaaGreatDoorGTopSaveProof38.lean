/- TopSave answers true for all inputs, where the listed variables read as the program's text lays them; the card ties that. Condition: laid. -/
import Derived.Test.YtmknhibaoopjjaaGreatDoorGTopSaveProof34
import Derived.Test.YtmknhibaoopjjaaGreatDoorGTopSaveProof32
import Derived.Test.YtmknhibaoopjjaaGreatDoorGTopSaveProof21
import Derived.Test.YtmknhibaoopjjaaGreatDoorGTopSaveProof37
import Derived.Test.YtmknhibaoopjjaaGreatDoorGTopSaveProof18
import Derived.Test.YtmknhibaoopjjaaGreatDoorTie
import Derived.Test.YtmknhibaoopjjaaGreatDoorCards
import Derived.ProofKit
import Derived.LaidMore
import Derived.SevenTiedAt
set_option linter.unusedVariables false
set_option linter.unusedSimpArgs false
namespace Go.Proofs.YtmknhibaoopjjaaGreatDoor
open Go.ChangeShapes Go.WideShapes Go.ChangeAt Go.RowKit Go.Joins
open Go.ChangeMaps (open_string)
theorem trodAll_zero {H : Type} {enc : TypeId × Value → H} {P : Program} {W : World} {base : Nat} {spare : Nat → Bool} {held : Bool} {args : Array Value} {ds : List (DataW H)} {p : List MemPlace} (h : DataW.TrodAll enc P W base spare held [] args.toList ds p) : args = #[] ∧ ds = [] ∧ p = [] := by
  obtain ⟨l⟩ := args
  cases l with
  | nil => cases ds with
    | nil => exact ⟨rfl, rfl, h⟩
    | cons _ _ => exact h.elim
  | cons _ _ => cases ds <;> exact h.elim
theorem door_met (os : Os) (args : Array Value) : laidMetH Tryz.prog Rows.topSaveRow.laid ((World.doorLaid Tryz.prog 72 os).forCall (fun _ _ => 0) ⟨#[], args, []⟩).memory :=
  laidMetH_of_parts3 (fuel := 8) (laidMet_of_run' 8 (by kernel_rfl) (by kernel_rfl)) (by kernel_rfl) (by kernel_rfl)
set_option maxRecDepth 100000 in
theorem topSave_lifted (os : Os) (started : os.Started) (H : Type) (enc : TypeId × Value → H) :
    ReturnsInHanded {} Tryz.checked os 7 .any (fun w args => (Rows.topSaveSpec.pre enc Tryz.prog Tryz.f7 [] false w args ∧ laidMetH Tryz.prog Rows.topSaveRow.laid w) ∧ sizedMet enc Tryz.prog Tryz.f7 (OpenSpec.ofChange Rows.topSaveSpec) false w args)
      (Rows.topSaveSpec.post enc Tryz.prog Tryz.f7 false true false false) := by
  refine handed_shaped (C := Tryz.checked) (X := fun w _ => laidMetH Tryz.prog Rows.topSaveRow.laid w) (fun _ _ _ hh h => h.of_heap hh) Tryz.own started (by kernel_rfl) Tryz.func7
    (ChangeSpec.witness_shaped (enc := enc) (C := Tryz.checked) (os := os) (X := fun w _ => laidMetH Tryz.prog Rows.topSaveRow.laid w) false (World.doorLaid Tryz.prog 72 os) #[.slice none 0 0, .slice none 0 0] 8 rfl (World.shaped_of_RefB (by kernel_rfl) (by kernel_rfl)) (by kernel_rfl) (by kernel_rfl) (by kernel_rfl) (door_met os _)) ?_
  intro W base args ds gs before hval0 hW hL hsh
  have hval : ∀ (j : Nat) t v, Tryz.f7.params[j]? = some t → args[j]? = some v → Value.okWide Tryz.prog W .any base t v := hval0
  have hlt : ∀ x ∈ before, x.block < W.heap.size := fun x hx => by simpa using hW.lt x hx
  obtain ⟨p, q, hA0, hV, rfl, hfz, hnd⟩ := hW
  have hA : DataW.TrodAll enc Tryz.prog W 0 (fun _ => true) true Tryz.f7.params.toList args.toList ds p := hA0
  have hA1 := hA
  rw [Tryz.params7] at hA hval
  obtain ⟨v0, v1, d0, d1, p0, p1, rfl, rfl, rfl, h0, h1⟩ := trodAll_two hA
  obtain ⟨rfl, rfl⟩ := trodVars_none hV
  rw [List.append_nil] at hfz hnd hlt
  obtain ⟨da, dc, D, rfl, hdl, hD⟩ := deeds_arg (hval 0 86 v0 rfl rfl) h0
  obtain ⟨sa, sc, sv, rfl, hsl, hS⟩ := bools_arg (hval 1 87 v1 rfl rfl) h1
  refine (topSave_any da D.length dc D sa sv.length sc sv W ⟨lib5 hL hsh, hD, hS⟩ rfl hdl rfl hsl).mono fun e W' ⟨he, hx⟩ => ?_
  subst he
  exact ⟨_, rfl, law_post Tryz.laidOut (by kernel_rfl) (by kernel_rfl) Tryz.underlying4 rfl rfl rfl rfl hA1 hfz hnd hlt hx⟩
theorem topSave_closed0 : (Rows.topSaveRow.inPlace == Tryz.pinned.checked.prog.inPlace 7) = true := by kernel_rfl
theorem topSave_closed1 : (Rows.topSaveRow.unfollowed == Tryz.pinned.checked.prog.unfollowed 7) = true := by kernel_rfl
theorem topSave_closed2 : (Rows.topSaveRow.recurses == Tryz.pinned.checked.prog.recurses 7) = true := by kernel_rfl
theorem topSave_closed3 : (Rows.topSaveRow.named == Tryz.pinned.checked.prog.varsNamed 7) = true := by kernel_rfl
theorem topSave_closed : joinedFacts Tryz.pinned.checked.prog 7 Tryz.f7 Rows.topSaveSpec Rows.topSaveRow = true := by
  unfold joinedFacts
  rw [topSave_closed0, topSave_closed1, topSave_closed2, topSave_closed3]
  kernel_rfl
/-- The row. -/
theorem topSave_row : Rows.TopSaveSaid :=
  OpenClaim.holds_of_wide 7 Tryz.f7 rfl rfl rfl rfl rfl rfl rfl ⟨rfl, rfl, rfl, rfl, rfl⟩ rfl rfl rfl rfl rfl (by kernel_rfl) Tryz.func7 topSave_closed
    (of_decide_eq_true (by kernel_rfl)) (by unfold Func.isWrapper; rw [if_neg (of_decide_eq_false (by kernel_rfl))]; exact ⟨rfl, rfl⟩)
    (fun os started H enc _ => topSave_lifted os started H enc)
/-- The statement: the card. -/
theorem topSave_holds : Rows.TopSaveCardSaid :=
  Claim7.holds_tied_plain_at .later [] [.data, .data, .data, .sentinel, .sentinel] true (true, "70b9aa9243ad7fbe53326c99caebb07eb2d5c41c6c0e727d1968f28a2071ba0e") true
    topSave_row (fun _ h => by cases h) (by kernel_rfl) (fun _ h => by cases h) topSave_row_tie rfl ⟨rfl, rfl⟩ (by kernel_rfl) rfl
    (fun f fn hf hfn => by
      obtain rfl : f = 7 := Option.some.inj ((show Tryz.prog.funcNamed "haywain/haywaintop.TopSave" = some 7 by kernel_rfl).symm.trans hf) |>.symm
      obtain rfl : fn = Tryz.f7 := (Option.some.inj (Tryz.func7.symm.trans hfn)).symm
      exact ⟨by kernel_rfl, fun j t ht => by
        rw [Tryz.params7] at ht
        have hm : t ∈ [86, 87] := by simpa using Array.mem_of_getElem? ht
        have hall : (([86, 87] : List TypeId).all fun u => !Tryz.prog.wantsStandIn u) = true := by kernel_rfl
        exact (show Tryz.prog.wantsStandIn t = false by simpa using List.all_eq_true.1 hall t hm)⟩)
    (by kernel_rfl)
end Go.Proofs.YtmknhibaoopjjaaGreatDoor
