/- TopOwn answers true for all inputs of bulk at most 1048576, where the listed variables read as the program's text lays them; the card ties that. Condition: laid. -/
import Derived.Test.YtpdnlgopbnkdhaaDoorGTopOwnProof32
import Derived.Test.YtpdnlgopbnkdhaaDoorGTopOwnProof20
import Derived.Test.YtpdnlgopbnkdhaaDoorGTopOwnProof18
import Derived.Test.YtpdnlgopbnkdhaaDoorGTopOwnProof34
import Derived.Test.YtpdnlgopbnkdhaaDoorGTopOwnProof15
import Derived.Test.YtpdnlgopbnkdhaaDoorTie
import Derived.Test.YtpdnlgopbnkdhaaDoorCards
import Derived.ProofKit
import Derived.LaidMore
import Derived.SevenTiedAt
set_option linter.unusedVariables false
set_option linter.unusedSimpArgs false
namespace Go.Proofs.YtpdnlgopbnkdhaaDoor
open Go.ChangeShapes Go.WideShapes Go.ChangeAt Go.RowKit Go.Joins
open Go.ChangeMaps (open_string)
theorem trodAll_zero {H : Type} {enc : TypeId × Value → H} {P : Program} {W : World} {base : Nat} {spare : Nat → Bool} {held : Bool} {args : Array Value} {ds : List (DataW H)} {p : List MemPlace} (h : DataW.TrodAll enc P W base spare held [] args.toList ds p) : args = #[] ∧ ds = [] ∧ p = [] := by
  obtain ⟨l⟩ := args
  cases l with
  | nil => cases ds with
    | nil => exact ⟨rfl, rfl, h⟩
    | cons _ _ => exact h.elim
  | cons _ _ => cases ds <;> exact h.elim
theorem door_met (os : Os) (args : Array Value) : laidMetH Tryd.prog Rows.topOwnUptoRow.laid ((World.doorLaid Tryd.prog 72 os).forCall (fun _ _ => 0) ⟨#[], args, []⟩).memory :=
  laidMetH_of_parts3 (fuel := 8) (laidMet_of_run' 8 (by kernel_rfl) (by kernel_rfl)) (by kernel_rfl) (by kernel_rfl)
set_option maxRecDepth 100000 in
theorem topOwn_lifted (os : Os) (started : os.Started) (H : Type) (enc : TypeId × Value → H) (F : Stop.Interp) :
    ReturnsInHanded {} Tryd.checked os 6 .any (fun w args => ((Rows.OpenSpec.upto Rows.topOwnSpec).pre enc Tryd.prog Tryd.f6 [] false w args ∧ laidMetH Tryd.prog Rows.topOwnUptoRow.laid w) ∧ sizedMet enc Tryd.prog Tryd.f6 (Rows.OpenSpec.upto Rows.topOwnSpec) false w args)
      (((Rows.OpenSpec.upto Rows.topOwnSpec).at F).post enc Tryd.prog Tryd.f6 false true false false) := by
  refine handed_cond (s := Rows.OpenSpec.upto Rows.topOwnSpec) (k := Rows.uptoSmall) rfl (C := Tryd.checked) (X := fun w _ => laidMetH Tryd.prog Rows.topOwnUptoRow.laid w) (fun _ _ _ hh h => h.of_heap hh) Tryd.own started (by kernel_rfl) Tryd.func6
    (witness_cond (s := Rows.OpenSpec.upto Rows.topOwnSpec) (k := Rows.uptoSmall) rfl (enc := enc) (C := Tryd.checked) (os := os) (X := fun w _ => laidMetH Tryd.prog Rows.topOwnUptoRow.laid w) (World.doorLaid Tryd.prog 72 os) #[.slice none 0 0, .slice none 0 0, .string ⟨#[]⟩] 8 rfl (World.shaped_of_RefB (by kernel_rfl) (by kernel_rfl)) (by kernel_rfl) (x := ([.nil, .nil, .lit (.string [])], [], [])) (by kernel_rfl) rfl rfl (by kernel_rfl) (door_met os _)) ?_
  intro W base args ds gs before hval0 hW hk hL hsh
  have hval : ∀ (j : Nat) t v, Tryd.f6.params[j]? = some t → args[j]? = some v → Value.okWide Tryd.prog W .any base t v := hval0
  have hlt : ∀ x ∈ before, x.block < W.heap.size := fun x hx => by simpa using hW.lt x hx
  obtain ⟨p, q, hA0, hV, rfl, hfz, hnd⟩ := hW
  have hA : DataW.TrodAll enc Tryd.prog W 0 (fun _ => true) true Tryd.f6.params.toList args.toList ds p := hA0
  have hA1 := hA
  rw [Tryd.params6] at hA hval
  obtain ⟨v0, v1, v2, d0, d1, d2, p0, p1, p2, rfl, rfl, rfl, h0, h1, h2⟩ := trodAll_three hA
  obtain ⟨rfl, rfl⟩ := trodVars_none hV
  rw [List.append_nil] at hfz hnd hlt
  obtain ⟨ra, rc, rows, rfl, hrl, hR⟩ := rows_arg (hval 0 51 v0 rfl rfl) h0
  obtain ⟨aa, ac, l, rfl, hlen, hA2⟩ := acts_arg (hval 1 23 v1 rfl rfl) h1
  obtain ⟨key, rfl, rfl⟩ := str_argU (hval 2 9 v2 rfl rfl) h2
  have hlen' : l.length ≤ 9223372036854775807 := hlen
  have hrl' : rows.length ≤ 9223372036854775807 := hrl
  have hks : key.size ≤ 1048576 := Nat.le_trans (bulk_mem (by simp)) (of_decide_eq_true hk)
  refine (topOwn_any ra rows.length rc rows aa l.length ac l key W ⟨lib5 hL hsh, hR, hA2⟩ rfl rfl hrl' hlen' hks).mono fun e W' ⟨he, hx⟩ => ?_
  subst he
  exact ⟨_, rfl, law_post Tryd.laidOut (by kernel_rfl) (by kernel_rfl) Tryd.underlying4 rfl rfl rfl rfl hA1 hfz hnd hlt hx⟩
/-- The row. -/
theorem topOwn_row : Rows.TopOwnUptoSaid :=
  OpenClaim.holds_of_cond 6 Tryd.f6 rfl rfl rfl rfl rfl rfl rfl ⟨rfl, rfl, rfl, rfl, rfl⟩ rfl rfl rfl rfl rfl (by kernel_rfl) Tryd.func6 (by kernel_rfl)
    (of_decide_eq_true (by kernel_rfl)) (by unfold Func.isWrapper; rw [if_neg (of_decide_eq_false (by kernel_rfl))]; exact ⟨rfl, rfl⟩)
    (fun os started H enc _ F => topOwn_lifted os started H enc F)
/-- The statement: the card. -/
theorem topOwn_holds : Rows.TopOwnUptoCardSaid :=
  Claim7.holds_tied_plain_at .later [] [.data, .data, .data, .sentinel, .sentinel] true (true, "38b5b1aeeda43a1be9e970b857b86f86643f114fbb77b593e77e662e48712d0d") true
    topOwn_row (fun _ h => by cases h) (by kernel_rfl) (fun _ h => by cases h) topOwnUpto_row_tie rfl ⟨rfl, rfl⟩ (by kernel_rfl) rfl
    (fun f fn hf hfn => by
      obtain rfl : f = 6 := Option.some.inj ((show Tryd.prog.funcNamed "haywain/haywaintop.TopOwn" = some 6 by kernel_rfl).symm.trans hf) |>.symm
      obtain rfl : fn = Tryd.f6 := (Option.some.inj (Tryd.func6.symm.trans hfn)).symm
      exact ⟨by kernel_rfl, fun j t ht => by
        rw [Tryd.params6] at ht
        have hm : t ∈ [51, 23, 9] := by simpa using Array.mem_of_getElem? ht
        have hall : (([51, 23, 9] : List TypeId).all fun u => !Tryd.prog.wantsStandIn u) = true := by kernel_rfl
        exact (show Tryd.prog.wantsStandIn t = false by simpa using List.all_eq_true.1 hall t hm)⟩)
    (by kernel_rfl)
end Go.Proofs.YtpdnlgopbnkdhaaDoor
