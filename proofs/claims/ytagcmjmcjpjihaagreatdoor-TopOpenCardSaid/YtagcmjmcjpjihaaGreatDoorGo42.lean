/- Texts TopOpenLift of this claim, laid together. -/
import Derived.Test.YtagcmjmcjpjihaaGreatDoorGo35
import Derived.Test.YtagcmjmcjpjihaaGreatDoorGo23
import Derived.Test.YtagcmjmcjpjihaaGreatDoorGo41
import Derived.Test.YtagcmjmcjpjihaaGreatDoorTie
import Derived.Test.YtagcmjmcjpjihaaGreatDoorCards
set_option linter.unusedVariables false
set_option linter.unusedSimpArgs false
set_option maxHeartbeats 8000000
set_option maxRecDepth 100000
namespace Go.Proofs.YtagcmjmcjpjihaaGreatDoor
open Go.ChangeShapes Go.WideShapes Go.ChangeAt Go.RowKit Go.Joins
open Go.ChangeMaps (open_string)
theorem zP9 (os : Os) (args : Array Value) : laidMetH Tryz.prog Rows.topOpenRow.laid ((zF6 os).forCall (fun _ _ => 0) ⟨#[], args, []⟩).memory :=
 zM1 os args
theorem zIJ (os : Os) (started : os.Started) (H : Type) (enc : TypeId × Value → H) :
 ReturnsInHanded {} Tryz.checked os 12 .any (fun w args => (Rows.topOpenSpec.pre enc Tryz.prog Tryz.f12 [] false w args ∧ laidMetH Tryz.prog Rows.topOpenRow.laid w) ∧ sizedMet enc Tryz.prog Tryz.f12 (OpenSpec.ofChange Rows.topOpenSpec) false w args)
  (Rows.topOpenSpec.post enc Tryz.prog Tryz.f12 false true false false) := by
 refine zJn (C := Tryz.checked) (X := fun w _ => laidMetH Tryz.prog Rows.topOpenRow.laid w) (fun _ _ _ hh h => h.of_heap hh) Tryz.own started (by kernel_rfl) Tryz.func12
  (ChangeSpec.witness_shaped (enc := enc) (C := Tryz.checked) (os := os) (X := fun w _ => laidMetH Tryz.prog Rows.topOpenRow.laid w) false (zF6 os) #[.slice none 0 0] 8 rfl (World.shaped_of_RefB (by kernel_rfl) (by kernel_rfl)) (by kernel_rfl) (by kernel_rfl) (by kernel_rfl) (zP9 os _)) ?_
 intro W base args ds gs before hval0 hW hL hsh
 have hval : ∀ (j : Nat) t v, Tryz.f12.params[j]? = some t → args[j]? = some v → Value.okWide Tryz.prog W .any base t v := hval0
 have hlt : ∀ x ∈ before, x.block < W.heap.size := fun x hx => by simpa using hW.lt x hx
 obtain ⟨p, q, hA0, hV, rfl, hfz, hnd⟩ := hW
 have hA : DataW.TrodAll enc Tryz.prog W 0 (fun _ => true) true Tryz.f12.params.toList args.toList ds p := hA0
 have hA1 := hA
 rw [Tryz.params12] at hA hval
 obtain ⟨v0, d0, rfl, rfl, h0⟩ := trodAll_one hA
 obtain ⟨rfl, rfl⟩ := trodVars_none hV
 rw [List.append_nil] at hfz hnd hlt
 obtain ⟨aa, ac, l, rfl, hlen, hA2⟩ := zP1 (hval 0 22 v0 rfl rfl) h0
 have hlen' : l.length ≤ 9223372036854775807 := hlen
 refine (zLx aa ac l W ⟨lib7 hL hsh, hA2⟩ hlen').mono fun e W' ⟨he, hx⟩ => ?_
 subst he
 exact ⟨_, rfl, zPa Tryz.laidOut (by kernel_rfl) (by kernel_rfl) Tryz.underlying4 rfl rfl rfl rfl hA1 hfz hnd hlt hx⟩
end Go.Proofs.YtagcmjmcjpjihaaGreatDoor
