/- RowSays answers true for all inputs, where the listed variables read as the program's text lays them; the card ties that. Condition: laid. -/
import Derived.Test.YtmjdgcgmlgbfjaaDoorArgs
import Derived.Test.YtmjdgcgmlgbfjaaDoorRowSays
import Derived.Test.YtmjdgcgmlgbfjaaDoorLaw
import Derived.Test.YtmjdgcgmlgbfjaaDoorTie
import Derived.Test.YtmjdgcgmlgbfjaaDoorCards
import Derived.ProofKit
import Derived.LaidMore
import Derived.SevenTiedAt
set_option linter.unusedVariables false
set_option linter.unusedSimpArgs false
namespace Go.Proofs.YtmjdgcgmlgbfjaaDoor
open Go.ChangeShapes Go.WideShapes Go.ChangeAt Go.RowKit Go.Joins
open Go.ChangeMaps (open_string)
theorem trodAll_zero {H : Type} {enc : TypeId × Value → H} {P : Program} {W : World} {base : Nat} {spare : Nat → Bool} {held : Bool} {args : Array Value} {ds : List (DataW H)} {p : List MemPlace} (h : DataW.TrodAll enc P W base spare held [] args.toList ds p) : args = #[] ∧ ds = [] ∧ p = [] := by
  obtain ⟨l⟩ := args
  cases l with
  | nil => cases ds with
    | nil => exact ⟨rfl, rfl, h⟩
    | cons _ _ => exact h.elim
  | cons _ _ => cases ds <;> exact h.elim
theorem door_met (os : Os) (args : Array Value) : laidMetH Tryd.prog Rows.rowSaysRow.laid ((doorFirst os).forCall (fun _ _ => 0) ⟨#[], args, []⟩).memory :=
  door_first os args
set_option maxRecDepth 100000 in
theorem rowSays_lifted (os : Os) (started : os.Started) (H : Type) (enc : TypeId × Value → H) :
    ReturnsInHanded {} Tryd.checked os 4 .any (fun w args => (Rows.rowSaysSpec.pre enc Tryd.prog Tryd.f4 [] false w args ∧ laidMetH Tryd.prog Rows.rowSaysRow.laid w) ∧ sizedMet enc Tryd.prog Tryd.f4 (OpenSpec.ofChange Rows.rowSaysSpec) false w args)
      (Rows.rowSaysSpec.post enc Tryd.prog Tryd.f4 false true false false) := by
  refine handed_shaped (C := Tryd.checked) (X := fun w _ => laidMetH Tryd.prog Rows.rowSaysRow.laid w) (fun _ _ _ hh h => h.of_heap hh) Tryd.own started (by kernel_rfl) Tryd.func4
    (ChangeSpec.witness_shaped (enc := enc) (C := Tryd.checked) (os := os) (X := fun w _ => laidMetH Tryd.prog Rows.rowSaysRow.laid w) false (doorFirst os) #[.string ⟨#[]⟩, .string ⟨#[]⟩, .int .i64 0, .agg #[.int .i64 0, .int .i64 0, .string ⟨#[]⟩], .agg #[.int .i64 0, .int .i64 0, .int .i64 0, .string ⟨#[]⟩], .string ⟨#[]⟩] 8 rfl (World.shaped_of_RefB (by kernel_rfl) (by kernel_rfl)) (by kernel_rfl) (by kernel_rfl) (by kernel_rfl) (door_met os _)) ?_
  intro W base args ds gs before hval0 hW hL hsh
  have hval : ∀ (j : Nat) t v, Tryd.f4.params[j]? = some t → args[j]? = some v → Value.okWide Tryd.prog W .any base t v := hval0
  have hlt : ∀ x ∈ before, x.block < W.heap.size := fun x hx => by simpa using hW.lt x hx
  obtain ⟨p, q, hA0, hV, rfl, hfz, hnd⟩ := hW
  have hA : DataW.TrodAll enc Tryd.prog W 0 (fun _ => true) true Tryd.f4.params.toList args.toList ds p := hA0
  have hA1 := hA
  rw [Tryd.params4] at hA hval
  obtain ⟨v0, v1, v2, v3, v4, v5, d0, d1, d2, d3, d4, d5, p0, p1, p2, p3, p4, p5, rfl, rfl, rfl, h0, h1, h2, h3, h4, h5⟩ := trodAll_six hA
  obtain ⟨rfl, rfl⟩ := trodVars_none hV
  rw [List.append_nil] at hfz hnd hlt
  obtain ⟨name, rfl, _⟩ := str_arg (hval 0 9 v0 rfl rfl) h0
  obtain ⟨key, rfl, _⟩ := str_arg (hval 1 9 v1 rfl rfl) h1
  obtain ⟨n, rfl, hn⟩ := int_arg (hval 2 3 v2 rfl rfl) h2
  obtain ⟨a, b, d, rfl⟩ := queue_arg (hval 3 32 v3 rfl rfl) h3
  obtain ⟨mn, x, y, body, rfl⟩ := message_arg (hval 4 34 v4 rfl rfl) h4
  obtain ⟨s, rfl, _⟩ := str_arg (hval 5 9 v5 rfl rfl) h5
  have hn' : n ≤ 9223372036854775807 := (bounds_i64 hn).2
  refine (rowSays_any name key n a b d mn x y body s W (lib7 hL hsh) hn').mono fun e W' ⟨he, hx⟩ => ?_
  subst he
  exact ⟨_, rfl, law_post Tryd.laidOut (by kernel_rfl) (by kernel_rfl) Tryd.underlying4 rfl rfl rfl rfl hA1 hfz hnd hlt hx⟩
/-- The row. -/
theorem rowSays_row : Rows.RowSaysSaid :=
  OpenClaim.holds_of_wide 4 Tryd.f4 rfl rfl rfl rfl rfl rfl rfl ⟨rfl, rfl, rfl, rfl, rfl⟩ rfl rfl rfl rfl rfl (by kernel_rfl) Tryd.func4 (by kernel_rfl)
    (of_decide_eq_true (by kernel_rfl)) (by unfold Func.isWrapper; rw [if_neg (of_decide_eq_false (by kernel_rfl))]; exact ⟨rfl, rfl⟩)
    (fun os started H enc _ => rowSays_lifted os started H enc)
/-- The statement: the card. -/
theorem rowSays_holds : Rows.RowSaysCardSaid :=
  Claim7.holds_tied_plain_at .later [] [.data, .data, .data, .data, .sentinel, .sentinel, .pinned] true (true, "baf9c5b2165bbdbb4c89d9576595abd68d83be7bc6d3dd467b5071ff8424da92") true
    rowSays_row (fun _ h => by cases h) (by kernel_rfl) (fun _ h => by cases h) rowSays_row_tie rfl ⟨rfl, rfl⟩ (by kernel_rfl) rfl
    (fun f fn hf hfn => by
      obtain rfl : f = 4 := Option.some.inj ((show Tryd.prog.funcNamed "haywain/haywainlaw.RowSays" = some 4 by kernel_rfl).symm.trans hf) |>.symm
      obtain rfl : fn = Tryd.f4 := (Option.some.inj (Tryd.func4.symm.trans hfn)).symm
      exact ⟨by kernel_rfl, fun j t ht => by
        rw [Tryd.params4] at ht
        have hm : t ∈ [9, 9, 3, 32, 34, 9] := by simpa using Array.mem_of_getElem? ht
        have hall : (([9, 9, 3, 32, 34, 9] : List TypeId).all fun u => !Tryd.prog.wantsStandIn u) = true := by kernel_rfl
        exact (show Tryd.prog.wantsStandIn t = false by simpa using List.all_eq_true.1 hall t hm)⟩)
    (by kernel_rfl)
end Go.Proofs.YtmjdgcgmlgbfjaaDoor
