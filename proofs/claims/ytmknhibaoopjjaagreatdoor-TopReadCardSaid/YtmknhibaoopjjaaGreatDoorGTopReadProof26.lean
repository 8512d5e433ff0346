/- Texts LightD of this claim, laid together. -/
import Derived.Test.YtmknhibaoopjjaaGreatDoorGTopReadProof24
import Derived.Test.YtmknhibaoopjjaaGreatDoorGTopReadProof12
set_option linter.unusedVariables false
set_option linter.unusedSimpArgs false
namespace Go.Proofs.YtmknhibaoopjjaaGreatDoor
open Go.RowKit
set_option maxHeartbeats 1000000 in
set_option maxRecDepth 100000 in
theorem number_any (n : Nat) (w : World) (hn : n ≤ 1000) : Calls Tryz.prog 49 #[errV n] w fun e w' => e = .returned (.int .i64 n) ∧ w' = w := by
  cases n with
  | zero =>
    rw [show errV 0 = .nilIface from rfl]
    go_enter Tryz.func49, Tryz.ntmps49
    go_wp2
    go_ret
    exact ⟨rfl, rfl⟩
  | succ n =>
    rw [show errV (n + 1) = .iface 127 (.int .i64 ((n + 1 : Nat) : Int)) from rfl]
    generalize hm : n + 1 = m at *
    have hm0 : 0 < m := by omega
    clear hm
    go_enter Tryz.func49, Tryz.ntmps49
    go_wp2
    go_ret
    exact ⟨rfl, rfl⟩
theorem ChangesAt.ofCh {w : World} {a : Option Addr} {l : List Ch} (h : ChAt w a l) : ChangesAt w a l := by
  rcases Nat.eq_zero_or_pos l.length with h0 | h0
  · exact .inl (List.length_eq_zero_iff.1 h0)
  · obtain ⟨b, off, rfl⟩ := ChAt.some h h0
    exact .inr ⟨b, off, rfl, fun i hi => ChAt.at h hi⟩
def lightDs (D : List DV) (most : Nat) : Bool := decide (D.length ≤ most) && D.all fun d => lightChanges d.2.2 14
theorem lightDs_of {D : List DV} {most : Nat} (h : lightDs D most = true) : D.length ≤ most ∧ ∀ d ∈ D, d.2.2.length ≤ 14 ∧ ∀ c ∈ d.2.2, c.key.size ≤ 60 ∧ c.val.size ≤ 100 := by
  unfold lightDs at h
  rw [Bool.and_eq_true] at h
  refine ⟨of_decide_eq_true h.1, fun d hd => ?_⟩
  have h1 := List.all_eq_true.1 h.2 d hd
  simp only [lightChanges, lightChange, Bool.and_eq_true, decide_eq_true_eq, List.all_eq_true] at h1
  exact h1
/-- Deeds that came in. -/
def DIn (w : World) (a : Option Addr) (D : List DV) : Prop := DLAt w a D ∧ ∀ d ∈ D, d.2.2.length ≤ 9223372036854775807
theorem DIn.up {w w' : World} {a : Option Addr} {D : List DV} (h : DIn w a D) (hb : ∀ b, b < w.heap.size → w'.heap[b]? = w.heap[b]?) : DIn w' a D := ⟨h.1.up hb, h.2⟩
theorem DIn.at {w : World} {b off : Nat} {D : List DV} (h : DIn w (some ⟨b, off, none⟩) D) {i : Nat} (hi : i < D.length) : w.cell? ⟨b, off + i, none⟩ = some (dv D[i]) :=
  ValsAt.get h.1.1 (i := i) (by rw [List.getElem?_map, List.getElem?_eq_getElem hi]; rfl)
theorem DIn.some {w : World} {a : Option Addr} {D : List DV} (h : DIn w a D) (hl : 0 < D.length) : ∃ b off, a = some ⟨b, off, none⟩ :=
  ValsAt.some h.1.1 (i := 0) (v := dv (D[0])) (by rw [List.getElem?_map, List.getElem?_eq_getElem hl]; rfl)
set_option maxHeartbeats 2000000 in
set_option maxRecDepth 100000 in
theorem lightDs_any (a : Option Addr) (n cap : Nat) (D : List DV) (most : Nat) (w : World) (hl : D.length = n) (hn : n ≤ 9223372036854775807) (hm : most ≤ 1000) (hs : DIn w a D) :
    Calls Tryz.prog 48 #[.slice a n cap, .int .i64 most] w fun e w' => e = .returned (.bool (lightDs D most)) ∧ w' = w := by
  by_cases hmany : most < n
  · rw [show lightDs D most = false from by unfold lightDs; rw [decide_eq_false (by omega)]; rfl]
    go_enter Tryz.func48, Tryz.ntmps48
    go_wp2
    go_ret
    exact ⟨rfl, rfl⟩
  · rw [show lightDs D most = D.all (fun d => lightChanges d.2.2 14) from by unfold lightDs; rw [decide_eq_true (by omega)]; rfl]
    have HR := Lib.hid (rfl : D.all (fun d => lightChanges d.2.2 14) = D.all (fun d => lightChanges d.2.2 14))
    generalize hr : D.all (fun d => lightChanges d.2.2 14) = r at HR ⊢
    clear HR
    have HR := Lib.hid hr
    clear hr
    go_enter Tryz.func48, Tryz.ntmps48
    go_wp2
    go_loop [5] (fun i => ∃ k : Nat, k ≤ n ∧ i = .int .i64 k ∧ Hid ((D.drop k).all (fun d => lightChanges d.2.2 14) = r)) (fun i => n - (intOf i).toNat)
    case atStart => exact ⟨0, by omega, rfl, HR⟩
    case round =>
      clear HR
      obtain ⟨k, hk, rfl, HI⟩ := hrel
      by_cases hlt : k < n
      · have hk2 : k < D.length := by omega
        obtain ⟨b, off, rfl⟩ := hs.some (by omega)
        have hcell := hs.at hk2
        have hx := hs.1.2 _ (List.getElem_mem hk2)
        have hxl := hs.2 _ (List.getElem_mem hk2)
        have hI := HI.out
        rw [List.drop_eq_getElem_cons hk2, List.all_cons] at hI
        clear HI
        generalize D[k] = x at *
        obtain ⟨xa, xc, xl⟩ := x
        dsimp only [dv] at hcell hx hxl hI
        have HL := fun w (hA : ChAt w xa xl) => lightChanges_any xa xc xl 14 w (by unfold maxLen; omega) (by omega) (ChangesAt.ofCh hA)
        cases hb : lightChanges xl 14 with
        | true =>
          rw [hb] at HL hI
          rw [Bool.true_and] at hI
          have HI := Lib.hid hI
          clear hI hb
          go_wp2_with (go_at_call 61; refine Calls.mono (HL _ hx) ?_; rintro e8 w8 ⟨rfl, rfl⟩; dsimp only)
          exact ⟨⟨k + 1, by omega, by go_num, HI⟩, by simp [intOf]; omega⟩
        | false =>
          rw [hb] at HL hI
          rw [Bool.false_and] at hI
          subst hI
          go_wp2_with (go_at_call 61; refine Calls.mono (HL _ hx) ?_; rintro e8 w8 ⟨rfl, rfl⟩; dsimp only)
          go_ret
          exact ⟨rfl, rfl⟩
      · have hI := HI.out
        rw [List.drop_of_length_le (by omega), List.all_nil] at hI
        subst hI
        go_wp2
        go_ret
        exact ⟨rfl, rfl⟩
end Go.Proofs.YtmknhibaoopjjaaGreatDoor
