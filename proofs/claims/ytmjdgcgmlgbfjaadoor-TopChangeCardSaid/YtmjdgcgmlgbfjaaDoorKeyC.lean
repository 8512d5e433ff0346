/- Package row: what makes keys; spans of keys. -/
import Derived.Test.YtmjdgcgmlgbfjaaDoorKeyLaw
import Derived.WalkSpells
import Derived.WalkLawsBesides
set_option linter.unusedVariables false
set_option linter.unusedSimpArgs false
namespace Go.Proofs.YtmjdgcgmlgbfjaaDoor
open Go.RowKit
theorem retS {a b : ByteArray} (h : a = b) : Ending.returned (.string a) = .returned (.string b) := by rw [h]
set_option maxHeartbeats 1000000 in
theorem table_any (a : ByteArray) (w : World) (ha : a.size ≤ 1000) : Calls Tryd.prog 15 #[.string a] w fun e w' => e = .returned (.string (tabB a)) ∧ w' = w := by
  go_enter Tryd.func15, Tryd.ntmps15
  go_wp2
  go_ret
  exact ⟨retS (ba_ext (by unfold tabB; rw [app_data, app_data, app_data]; rfl)), rfl⟩
set_option maxHeartbeats 1000000 in
theorem queue_any (a : ByteArray) (w : World) (ha : a.size ≤ 1000) : Calls Tryd.prog 16 #[.string a] w fun e w' => e = .returned (.string (queB a)) ∧ w' = w := by
  go_enter Tryd.func16, Tryd.ntmps16
  go_wp2
  go_ret
  exact ⟨retS (ba_ext (by unfold queB; rw [app_data, app_data, app_data]; rfl)), rfl⟩
set_option maxHeartbeats 1000000 in
theorem message_any (a : ByteArray) (n : Int) (w : World) (ha : a.size ≤ 1000) (h : LibOk w) (hn : n ≤ 9223372036854775807) : Calls Tryd.prog 17 #[.string a, .int .i64 n] w fun e w' => e = .returned (.string (msgB a n.toNat)) ∧ Ext w w' := by
  have hz := six_size n.toNat
  have key : ∀ w, LibOk w → ∀ z : Int, z = (n.toNat : Int) → Calls Tryd.prog 46 #[.int .i64 z] w fun e w' => e = .returned (.string (six n.toNat)) ∧ Ext w w' := fun w h z hz => by
    rw [hz]; exact six_any n.toNat w h (by omega)
  have fin : ((⟨#[109, 47]⟩ ++ a) ++ ⟨#[47]⟩) ++ six n.toNat = msgB a n.toNat := ba_ext (by unfold msgB; rw [app_data, app_data, app_data, app_data, app_data, app_data, app_data]; simp only [List.append_assoc]; rfl)
  generalize six n.toNat = y at *
  have k1 := fun w h => key w h (max n 0) (by omega)
  go_enter Tryd.func17, Tryd.ntmps17
  go_wp2_with (go_at_call 46; with_reducible apply Calls.mono (k1 _ h); rintro e8 w8 ⟨rfl, hx⟩; dsimp only)
  all_goals first | (exfalso; omega) | (go_ret; exact ⟨rfl, hx⟩)
def loB (a : ByteArray) : ByteArray := mB ++ slash ++ a ++ slash
def hiB (a : ByteArray) : ByteArray := mB ++ slash ++ a ++ ⟨#[48]⟩
set_option maxHeartbeats 1000000 in
theorem messages_any (a : ByteArray) (w : World) (ha : a.size ≤ 1000) : Calls Tryd.prog 19 #[.string a] w fun e w' => e = .returned (.agg #[.string (loB a), .string (hiB a)]) ∧ Ext w w' := by
  have e1 : (⟨#[109, 47]⟩ ++ a) ++ ⟨#[47]⟩ = loB a := ba_ext (by unfold loB; rw [app_data, app_data, app_data, app_data, app_data]; rfl)
  have e2 : (⟨#[109, 47]⟩ ++ a) ++ ⟨#[48]⟩ = hiB a := ba_ext (by unfold hiB; rw [app_data, app_data, app_data, app_data, app_data]; rfl)
  have E1 := Lib.hid e1
  have E2 := Lib.hid e2
  clear e1 e2
  go_enter Tryd.func19, Tryd.ntmps19
  go_wp2
  refine bodyPost_ret (v := .agg #[.string (loB a), .string (hiB a)]) ?_ rfl ⟨rfl, ?_⟩
  · simp [results, Tryd.results19, go_sem, ← E1.out, ← E2.out]
  · exact (Ext.refl _).alloc _
def belowB (k hi : ByteArray) : Bool := hi.toList.isEmpty || slt k hi
def hasB (lo hi k : ByteArray) : Bool := !slt k lo && belowB k hi
set_option maxHeartbeats 400000 in
theorem belowB_any (k hi : ByteArray) (w : World) :
    Calls Tryd.prog 62 #[.string k, .string hi] w fun e w' => e = .returned (.bool (belowB k hi)) ∧ w' = w := by
  go_enter Tryd.func62, Tryd.ntmps62
  go_wp2
  all_goals (go_ret; refine ⟨?_, rfl⟩; simp [belowB, slt, *])
set_option maxHeartbeats 400000 in
theorem hasB_any (lo hi k : ByteArray) (w : World) :
    Calls Tryd.prog 44 #[.agg #[.string lo, .string hi], .string k] w fun e w' => e = .returned (.bool (hasB lo hi k)) ∧ Ext w w' := by
  go_enter Tryd.func44, Tryd.ntmps44
  go_wp2_with (go_at_call 62; refine (belowB_any _ _ _).mono ?_; rintro e w' ⟨rfl, rfl⟩)
  all_goals (go_ret; refine ⟨?_, (Ext.refl _).alloc _⟩; simp [hasB, slt, *])
end Go.Proofs.YtmjdgcgmlgbfjaaDoor
