/- QueueSays answers true for all inputs, where the listed variables read as the program's text lays them; the card ties that. Condition: laid. -/
import Derived.Test.YtmknhibaoopjjaaGreatDoorGQueueSaysProof29
import Derived.Test.YtmknhibaoopjjaaGreatDoorGQueueSaysProof19
import Derived.Test.YtmknhibaoopjjaaGreatDoorGQueueSaysProof35
import Derived.Test.YtmknhibaoopjjaaGreatDoorGQueueSaysProof15
import Derived.Test.YtmknhibaoopjjaaGreatDoorTie
import Derived.Test.YtmknhibaoopjjaaGreatDoorCards
import Derived.ProofKit
import Derived.LaidMore
import Derived.SevenTiedAt
set_option linter.unusedVariables false
set_option linter.unusedSimpArgs false
namespace Go.Proofs.YtmknhibaoopjjaaGreatDoor
open Go.ChangeShapes Go.WideShapes Go.ChangeAt Go.RowKit Go.Joins
open Go.ChangeMaps (open_string)
theorem trodAll_zero {H : Type} {enc : TypeId × Value → H} {P : Program} {W : World} {base : Nat} {spare : Nat → Bool} {held : Bool} {args : Array Value} {ds : List (DataW H)} {p : List MemPlace} (h : DataW.TrodAll enc P W base spare held [] args.toList ds p) : args = #[] ∧ ds = [] ∧ p = [] := by
  obtain ⟨l⟩ := args
  cases l with
  | nil => cases ds with
    | nil => exact ⟨rfl, rfl, h⟩
    | cons _ _ => exact h.elim
  | cons _ _ => cases ds <;> exact h.elim
theorem door_met (os : Os) (args : Array Value) : laidMetH Tryz.prog Rows.queueSaysRow.laid ((doorFirst os).forCall (fun _ _ => 0) ⟨#[], args, []⟩).memory :=
  door_first os args
set_option maxRecDepth 100000 in
theorem queueSays_lifted (os : Os) (started : os.Started) (H : Type) (enc : TypeId × Value → H) :
    ReturnsInHanded {} Tryz.checked os 5 .any (fun w args => (Rows.queueSaysSpec.pre enc Tryz.prog Tryz.f5 [] false w args ∧ laidMetH Tryz.prog Rows.queueSaysRow.laid w) ∧ sizedMet enc Tryz.prog Tryz.f5 (OpenSpec.ofChange Rows.queueSaysSpec) false w args)
      (Rows.queueSaysSpec.post enc Tryz.prog Tryz.f5 false true false false) := by
  refine handed_shaped (C := Tryz.checked) (X := fun w _ => laidMetH Tryz.prog Rows.queueSaysRow.laid w) (fun _ _ _ hh h => h.of_heap hh) Tryz.own started (by kernel_rfl) Tryz.func5
    (ChangeSpec.witness_shaped (enc := enc) (C := Tryz.checked) (os := os) (X := fun w _ => laidMetH Tryz.prog Rows.queueSaysRow.laid w) false (doorFirst os) #[.slice none 0 0, .slice none 0 0] 8 rfl (World.shaped_of_RefB (by kernel_rfl) (by kernel_rfl)) (by kernel_rfl) (by kernel_rfl) (by kernel_rfl) (door_met os _)) ?_
  intro W base args ds gs before hval0 hW hL hsh
  have hval : ∀ (j : Nat) t v, Tryz.f5.params[j]? = some t → args[j]? = some v → Value.okWide Tryz.prog W .any base t v := hval0
  have hlt : ∀ x ∈ before, x.block < W.heap.size := fun x hx => by simpa using hW.lt x hx
  obtain ⟨p, q, hA0, hV, rfl, hfz, hnd⟩ := hW
  have hA : DataW.TrodAll enc Tryz.prog W 0 (fun _ => true) true Tryz.f5.params.toList args.toList ds p := hA0
  have hA1 := hA
  rw [Tryz.params5] at hA hval
  obtain ⟨v0, v1, d0, d1, p0, p1, rfl, rfl, rfl, h0, h1⟩ := trodAll_two hA
  obtain ⟨rfl, rfl⟩ := trodVars_none hV
  rw [List.append_nil] at hfz hnd hlt
  obtain ⟨ra, rc, rows, rfl, hrl, hR⟩ := rows_arg (hval 0 22 v0 rfl rfl) h0
  obtain ⟨aa, ac, l, rfl, hlen, hA2⟩ := acts_arg (hval 1 23 v1 rfl rfl) h1
  have hlen' : l.length ≤ 9223372036854775807 := hlen
  have hrl' : rows.length ≤ 9223372036854775807 := hrl
  refine (queueSays_any ra rows.length rc rows aa l.length ac l W ⟨lib7 hL hsh, hR, hA2⟩ rfl rfl hrl' hlen').mono fun e W' ⟨he, hx⟩ => ?_
  subst he
  exact ⟨_, rfl, law_post Tryz.laidOut (by kernel_rfl) (by kernel_rfl) Tryz.underlying4 rfl rfl rfl rfl hA1 hfz hnd hlt hx⟩
theorem queueSays_closed0 : (Rows.queueSaysRow.inPlace == Tryz.pinned.checked.prog.inPlace 5) = true := by kernel_rfl
theorem queueSays_closed1 : (Rows.queueSaysRow.unfollowed == Tryz.pinned.checked.prog.unfollowed 5) = true := by kernel_rfl
theorem queueSays_closed2 : (Rows.queueSaysRow.recurses == Tryz.pinned.checked.prog.recurses 5) = true := by kernel_rfl
theorem queueSays_closed3 : (Rows.queueSaysRow.named == Tryz.pinned.checked.prog.varsNamed 5) = true := by kernel_rfl
theorem queueSays_closed : joinedFacts Tryz.pinned.checked.prog 5 Tryz.f5 Rows.queueSaysSpec Rows.queueSaysRow = true := by
  unfold joinedFacts
  rw [queueSays_closed0, queueSays_closed1, queueSays_closed2, queueSays_closed3]
  kernel_rfl
/-- The row. -/
theorem queueSays_row : Rows.QueueSaysSaid :=
  OpenClaim.holds_of_wide 5 Tryz.f5 rfl rfl rfl rfl rfl rfl rfl ⟨rfl, rfl, rfl, rfl, rfl⟩ rfl rfl rfl rfl rfl (by kernel_rfl) Tryz.func5 queueSays_closed
    (of_decide_eq_true (by kernel_rfl)) (by unfold Func.isWrapper; rw [if_neg (of_decide_eq_false (by kernel_rfl))]; exact ⟨rfl, rfl⟩)
    (fun os started H enc _ => queueSays_lifted os started H enc)
/-- The statement: the card. -/
theorem queueSays_holds : Rows.QueueSaysCardSaid :=
  Claim7.holds_tied_plain_at .later [] [.data, .data, .data, .data, .sentinel, .sentinel, .pinned] true (true, "70b9aa9243ad7fbe53326c99caebb07eb2d5c41c6c0e727d1968f28a2071ba0e") true
    queueSays_row (fun _ h => by cases h) (by kernel_rfl) (fun _ h => by cases h) queueSays_row_tie rfl ⟨rfl, rfl⟩ (by kernel_rfl) rfl
    (fun f fn hf hfn => by
      obtain rfl : f = 5 := Option.some.inj ((show Tryz.prog.funcNamed "haywain/haywainlaw.QueueSays" = some 5 by kernel_rfl).symm.trans hf) |>.symm
      obtain rfl : fn = Tryz.f5 := (Option.some.inj (Tryz.func5.symm.trans hfn)).symm
      exact ⟨by kernel_rfl, fun j t ht => by
        rw [Tryz.params5] at ht
        have hm : t ∈ [22, 23] := by simpa using Array.mem_of_getElem? ht
        have hall : (([22, 23] : List TypeId).all fun u => !Tryz.prog.wantsStandIn u) = true := by kernel_rfl
        exact (show Tryz.prog.wantsStandIn t = false by simpa using List.all_eq_true.1 hall t hm)⟩)
    (by kernel_rfl)
end Go.Proofs.YtmknhibaoopjjaaGreatDoor
