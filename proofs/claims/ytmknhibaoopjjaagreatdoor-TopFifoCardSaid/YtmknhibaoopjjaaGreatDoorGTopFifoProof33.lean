/- TopFifo answers true for all inputs, where the listed variables read as the program's text lays them; the card ties that. Condition: laid. -/
import Derived.Test.YtmknhibaoopjjaaGreatDoorGTopFifoProof28
import Derived.Test.YtmknhibaoopjjaaGreatDoorGTopFifoProof18
import Derived.Test.YtmknhibaoopjjaaGreatDoorGTopFifoProof32
import Derived.Test.YtmknhibaoopjjaaGreatDoorGTopFifoProof15
import Derived.Test.YtmknhibaoopjjaaGreatDoorTie
import Derived.Test.YtmknhibaoopjjaaGreatDoorCards
import Derived.ProofKit
import Derived.LaidMore
import Derived.SevenTiedAt
set_option linter.unusedVariables false
set_option linter.unusedSimpArgs false
namespace Go.Proofs.YtmknhibaoopjjaaGreatDoor
open Go.ChangeShapes Go.WideShapes Go.ChangeAt Go.RowKit Go.Joins
open Go.ChangeMaps (open_string)
theorem trodAll_zero {H : Type} {enc : TypeId × Value → H} {P : Program} {W : World} {base : Nat} {spare : Nat → Bool} {held : Bool} {args : Array Value} {ds : List (DataW H)} {p : List MemPlace} (h : DataW.TrodAll enc P W base spare held [] args.toList ds p) : args = #[] ∧ ds = [] ∧ p = [] := by
  obtain ⟨l⟩ := args
  cases l with
  | nil => cases ds with
    | nil => exact ⟨rfl, rfl, h⟩
    | cons _ _ => exact h.elim
  | cons _ _ => cases ds <;> exact h.elim
theorem door_met (os : Os) (args : Array Value) : laidMetH Tryz.prog Rows.topFifoRow.laid ((doorFirst os).forCall (fun _ _ => 0) ⟨#[], args, []⟩).memory :=
  door_first os args
set_option maxRecDepth 100000 in
theorem topFifo_lifted (os : Os) (started : os.Started) (H : Type) (enc : TypeId × Value → H) :
    ReturnsInHanded {} Tryz.checked os 9 .any (fun w args => (Rows.topFifoSpec.pre enc Tryz.prog Tryz.f9 [] false w args ∧ laidMetH Tryz.prog Rows.topFifoRow.laid w) ∧ sizedMet enc Tryz.prog Tryz.f9 (OpenSpec.ofChange Rows.topFifoSpec) false w args)
      (Rows.topFifoSpec.post enc Tryz.prog Tryz.f9 false true false false) := by
  refine handed_shaped (C := Tryz.checked) (X := fun w _ => laidMetH Tryz.prog Rows.topFifoRow.laid w) (fun _ _ _ hh h => h.of_heap hh) Tryz.own started (by kernel_rfl) Tryz.func9
    (ChangeSpec.witness_shaped (enc := enc) (C := Tryz.checked) (os := os) (X := fun w _ => laidMetH Tryz.prog Rows.topFifoRow.laid w) false (doorFirst os) #[.slice none 0 0, .int .i64 0] 8 rfl (World.shaped_of_RefB (by kernel_rfl) (by kernel_rfl)) (by kernel_rfl) (by kernel_rfl) (by kernel_rfl) (door_met os _)) ?_
  intro W base args ds gs before hval0 hW hL hsh
  have hval : ∀ (j : Nat) t v, Tryz.f9.params[j]? = some t → args[j]? = some v → Value.okWide Tryz.prog W .any base t v := hval0
  have hlt : ∀ x ∈ before, x.block < W.heap.size := fun x hx => by simpa using hW.lt x hx
  obtain ⟨p, q, hA0, hV, rfl, hfz, hnd⟩ := hW
  have hA : DataW.TrodAll enc Tryz.prog W 0 (fun _ => true) true Tryz.f9.params.toList args.toList ds p := hA0
  have hA1 := hA
  rw [Tryz.params9] at hA hval
  obtain ⟨v0, v1, d0, d1, p0, p1, rfl, rfl, rfl, h0, h1⟩ := trodAll_two hA
  obtain ⟨rfl, rfl⟩ := trodVars_none hV
  rw [List.append_nil] at hfz hnd hlt
  obtain ⟨sa, sc, ss, rfl, hsl, hS⟩ := texts_arg (hval 0 97 v0 rfl rfl) h0
  obtain ⟨now, rfl, _⟩ := int_arg (hval 1 3 v1 rfl rfl) h1
  have hsl' : ss.length ≤ 9223372036854775807 := hsl
  refine (topFifo_any sa ss.length sc ss now W ⟨lib7 hL hsh, hS⟩ rfl hsl').mono fun e W' ⟨he, hx⟩ => ?_
  subst he
  exact ⟨_, rfl, law_post Tryz.laidOut (by kernel_rfl) (by kernel_rfl) Tryz.underlying4 rfl rfl rfl rfl hA1 hfz hnd hlt hx⟩
theorem topFifo_closed0 : (Rows.topFifoRow.inPlace == Tryz.pinned.checked.prog.inPlace 9) = true := by kernel_rfl
theorem topFifo_closed1 : (Rows.topFifoRow.unfollowed == Tryz.pinned.checked.prog.unfollowed 9) = true := by kernel_rfl
theorem topFifo_closed2 : (Rows.topFifoRow.recurses == Tryz.pinned.checked.prog.recurses 9) = true := by kernel_rfl
theorem topFifo_closed3 : (Rows.topFifoRow.named == Tryz.pinned.checked.prog.varsNamed 9) = true := by kernel_rfl
theorem topFifo_closed : joinedFacts Tryz.pinned.checked.prog 9 Tryz.f9 Rows.topFifoSpec Rows.topFifoRow = true := by
  unfold joinedFacts
  rw [topFifo_closed0, topFifo_closed1, topFifo_closed2, topFifo_closed3]
  kernel_rfl
/-- The row. -/
theorem topFifo_row : Rows.TopFifoSaid :=
  OpenClaim.holds_of_wide 9 Tryz.f9 rfl rfl rfl rfl rfl rfl rfl ⟨rfl, rfl, rfl, rfl, rfl⟩ rfl rfl rfl rfl rfl (by kernel_rfl) Tryz.func9 topFifo_closed
    (of_decide_eq_true (by kernel_rfl)) (by unfold Func.isWrapper; rw [if_neg (of_decide_eq_false (by kernel_rfl))]; exact ⟨rfl, rfl⟩)
    (fun os started H enc _ => topFifo_lifted os started H enc)
/-- The statement: the card. -/
theorem topFifo_holds : Rows.TopFifoCardSaid :=
  Claim7.holds_tied_plain_at .later [] [.data, .data, .data, .data, .sentinel, .sentinel, .pinned] true (true, "70b9aa9243ad7fbe53326c99caebb07eb2d5c41c6c0e727d1968f28a2071ba0e") true
    topFifo_row (fun _ h => by cases h) (by kernel_rfl) (fun _ h => by cases h) topFifo_row_tie rfl ⟨rfl, rfl⟩ (by kernel_rfl) rfl
    (fun f fn hf hfn => by
      obtain rfl : f = 9 := Option.some.inj ((show Tryz.prog.funcNamed "haywain/haywaintop.TopFifo" = some 9 by kernel_rfl).symm.trans hf) |>.symm
      obtain rfl : fn = Tryz.f9 := (Option.some.inj (Tryz.func9.symm.trans hfn)).symm
      exact ⟨by kernel_rfl, fun j t ht => by
        rw [Tryz.params9] at ht
        have hm : t ∈ [97, 3] := by simpa using Array.mem_of_getElem? ht
        have hall : (([97, 3] : List TypeId).all fun u => !Tryz.prog.wantsStandIn u) = true := by kernel_rfl
        exact (show Tryz.prog.wantsStandIn t = false by simpa using List.all_eq_true.1 hall t hm)⟩)
    (by kernel_rfl)
end Go.Proofs.YtmknhibaoopjjaaGreatDoor
