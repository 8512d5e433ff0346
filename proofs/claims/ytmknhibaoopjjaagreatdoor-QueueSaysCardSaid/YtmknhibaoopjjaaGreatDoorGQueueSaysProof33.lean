/- Texts Q7, Q8, Q9, Q12, Q13, Q14, Recv, Q20, Q19, Q21, Q10, Q11 of this claim, laid together. -/
import Derived.Test.YtmknhibaoopjjaaGreatDoorGQueueSaysProof32
import Derived.Laws.RangeString
import Derived.Test.YtmknhibaoopjjaaGreatDoorGQueueSaysProof22
set_option linter.unusedVariables false
set_option linter.unusedSimpArgs false
namespace Go.Proofs.YtmknhibaoopjjaaGreatDoor
open Go.RowKit
noncomputable def createA (B : ByteArray → ByteArray × Bool) (C : List Ch) (R : List Sp) (name : ByteArray) (tries : Int) (dead : ByteArray) : Nat × List Ch × List Sp :=
  if (findN (B (queB name)) C R name).2 = 0 then (6, C, findR C R name) else if (findN (B (queB name)) C R name).2 ≠ 5 then ((findN (B (queB name)) C R name).2, C, findR C R name)
  else if dead = name then (3, C, findR C R name)
  else if dead = ⟨#[]⟩ then (putqN C name ⟨0, tries, dead⟩, putqL C name ⟨0, tries, dead⟩, findR C R name)
  else if (findN (B (queB dead)) C (findR C R name) dead).2 ≠ 0 then ((findN (B (queB dead)) C (findR C R name) dead).2, C, findR C (findR C R name) dead)
  else (putqN C name ⟨0, tries, dead⟩, putqL C name ⟨0, tries, dead⟩, findR C (findR C R name) dead)
theorem errV_is (n : Nat) : (n = 0 ∧ errV n = .nilIface) ∨ ∃ M : Int, M = n ∧ n ≠ 0 ∧ errV n = .iface 127 (.int .i64 M) := by
  cases n with
  | zero => exact .inl ⟨rfl, rfl⟩
  | succ n => exact .inr ⟨((n + 1 : Nat) : Int), rfl, by omega, rfl⟩
@[go_sem] theorem run_neq_err (a b : Int) (w : World) : (binOp .neq 42 (.iface 127 (.int .i64 a)) (.iface 127 (.int .i64 b))).run Tryz.prog w = .ok (.bool (!(a == b))) w := by kernel_rfl
theorem getB_len {C : List Ch} {R : List Sp} {k : ByteArray} (h : R.length ≤ 40) : (getB C R k).length ≤ 40 := by
  unfold getB
  split
  · exact h
  · split
    · exact h
    · exact noteR_len _ h
theorem findR_len {C : List Ch} {R : List Sp} {k : ByteArray} (h : R.length ≤ 40) : (findR C R k).length ≤ 40 := by
  unfold findR
  split
  · exact h
  · exact getB_len h
set_option maxHeartbeats 8000000 in
set_option maxRecDepth 100000 in
theorem qCreate_does (q p since nn : Nat) (V : List (ByteArray × List Vn)) (B : ByteArray → ByteArray × Bool) (C : List Ch) (R : List Sp) (name : ByteArray) (tries : Int) (dead : ByteArray) (hy : ∀ k, readV V k since = B k) (hys : ∀ k, (B k).1.size ≤ 100) (hCs : ∀ c ∈ C, c.val.size ≤ 100)
    (hk : name.size ≤ 200) (hdk : dead.size ≤ 200) (hC : C.length ≤ 700) (hU : Ups C) (hR : R.length ≤ 40) (hV : ∀ e ∈ V, e.2.length ≤ 1000000) {φ : World → Prop} (hφ : ∀ w, φ w → LibOk w) :
    Does Tryz.prog 54 #[.pointer (some ⟨q, 0, none⟩), .string name, .int .i64 tries, .string dead] [ViewR q p since C R, VerR p nn V, .imm φ]
      (fun _ : Unit => (errV (createA B C R name tries dead).1, [ViewR q p since (createA B C R name tries dead).2.1 (createA B C R name tries dead).2.2, VerR p nn V, .imm φ])) := by
  have HF := qFind_does q p since nn V C R name _ (hy _) (hys _) hCs hk (by omega) hU hR hV hφ
  have hR2 := findR_len (C := C) (k := name) hR
  have HF2 := qFind_does q p since nn V C (findR C R name) dead _ (hy _) (hys _) hCs hdk (by omega) hU hR2 hV hφ
  have hok := findN_ok (y := B (queB dead)) (C := C) (R := findR C R name) (name := dead)
  have hPT := fun R' (h : dead.size ≤ 50) => qPut_does q p since C R' name ⟨0, tries, dead⟩ h hk (by omega) hU hφ
  unfold createA
  generalize findN (B (queB name)) C R name = f at *
  generalize findN (B (queB dead)) C (findR C R name) dead = g at *
  generalize findR C (findR C R name) dead = R2 at *
  generalize findR C R name = R1 at *
  obtain ⟨⟨un, ut, ud⟩, f2⟩ := f
  obtain ⟨⟨gn, gt, gd⟩, g2⟩ := g
  unfold Qu.v at HF HF2 hPT
  dsimp only at HF HF2 hPT hok ⊢
  rcases errV_is f2 with ⟨h0, e⟩ | ⟨M, hM, h0, e⟩
  · rw [e] at HF
    rw [if_pos h0, show errV 6 = .iface 127 (.int .i64 6) from rfl]
    clear HF2 hPT hok h0 e
    intro S W w L0 hO; simp only [CA] at hO
    ((try clear hf); have hf := fa_ hO)
    go_enter Tryz.func54, Tryz.ntmps54
    go_wp2_with (first | (go_at_call 115; (with_reducible apply Does.use hO (HF); (focus exact tk_); clear hO; intro x9 w9 hO; dsimp only at hO ⊢; simp only [CA] at hO; ((try clear hf); have hf := fa_ hO))) | ((refine sy_ hO ?_); clear hO; intro w9 hO; (try dsimp only [List.set] at hO); ((try clear hf); have hf := fa_ hO)))
    go_ret
    refine ⟨(), rfl, ?_⟩
    (try simp only [CA])
    exact hO.cut sb_
  · rw [e] at HF
    rw [if_neg h0]
    by_cases h5 : f2 ≠ 5
    · rw [if_pos h5]
      dsimp only
      rw [e]
      have hM5 : ¬ M = 5 := by omega
      have hM6 : (M == 5) = false := by simpa using hM5
      clear HF2 hPT hok h0 e h5 hM
      intro S W w L0 hO; simp only [CA] at hO
      ((try clear hf); have hf := fa_ hO)
      go_enter Tryz.func54, Tryz.ntmps54
      go_wp2_with (first | (go_at_call 115; (with_reducible apply Does.use hO (HF); (focus exact tk_); clear hO; intro x9 w9 hO; dsimp only at hO ⊢; simp only [CA] at hO; ((try clear hf); have hf := fa_ hO))) | ((refine sy_ hO ?_); clear hO; intro w9 hO; (try dsimp only [List.set] at hO); ((try clear hf); have hf := fa_ hO)))
      all_goals try (exfalso; omega; done)
      go_ret
      refine ⟨(), rfl, ?_⟩
      (try simp only [CA])
      exact hO.cut sb_
    · rw [if_neg h5]
      obtain rfl : M = 5 := by omega
      clear e h0 h5 hM
      by_cases hdn : dead = name
      · subst hdn
        rw [if_pos rfl, show errV 3 = .iface 127 (.int .i64 3) from rfl]
        clear HF2 hPT hok
        intro S W w L0 hO; simp only [CA] at hO
        ((try clear hf); have hf := fa_ hO)
        go_enter Tryz.func54, Tryz.ntmps54
        go_wp2_with (first | (go_at_call 115; (with_reducible apply Does.use hO (HF); (focus exact tk_); clear hO; intro x9 w9 hO; dsimp only at hO ⊢; simp only [CA] at hO; ((try clear hf); have hf := fa_ hO))) | ((refine sy_ hO ?_); clear hO; intro w9 hO; (try dsimp only [List.set] at hO); ((try clear hf); have hf := fa_ hO)))
        all_goals try (exfalso; omega; done)
        go_ret
        refine ⟨(), rfl, ?_⟩
        (try simp only [CA])
        exact hO.cut sb_
      · rw [if_neg hdn]
        have h1 : ¬ dead.toList = name.toList := fun h => hdn (toList_inj h)
        have h2 : (dead.toList == name.toList) = false := by simpa using h1
        by_cases hd0 : dead = ⟨#[]⟩
        · rw [if_pos hd0]
          have HPT := hPT R1 (by rw [hd0]; exact Nat.zero_le _)
          have h3 : dead.toList = [] := by rw [hd0, ByteArray.toList_eq]
          clear HF2 hPT hok hdn hd0
          dsimp only
          generalize putqL C name ⟨0, tries, dead⟩ = C' at *
          generalize errV (putqN C name ⟨0, tries, dead⟩) = ev at *
          intro S W w L0 hO; simp only [CA] at hO
          ((try clear hf); have hf := fa_ hO)
          go_enter Tryz.func54, Tryz.ntmps54
          go_wp2_with (first | (go_at_call 115; (with_reducible apply Does.use hO (HF); (focus exact tk_); clear hO; intro x9 w9 hO; dsimp only at hO ⊢; simp only [CA] at hO; ((try clear hf); have hf := fa_ hO))) | (go_at_call 122; (with_reducible apply Does.use hO (HPT); (focus exact tk_); clear hO; intro x9 w9 hO; dsimp only at hO ⊢; simp only [CA] at hO; ((try clear hf); have hf := fa_ hO))) | ((refine sy_ hO ?_); clear hO; intro w9 hO; (try dsimp only [List.set] at hO); ((try clear hf); have hf := fa_ hO)))
          all_goals try (exfalso; simp_all; done)
          go_ret
          refine ⟨(), rfl, ?_⟩
          (try simp only [CA])
          exact hO.cut sb_
        · rw [if_neg hd0]
          have h3 : ¬ dead.toList = [] := fun h => hd0 (toList_inj (h.trans (by rw [ByteArray.toList_eq])))
          clear hdn hd0
          rcases errV_or g2 with ⟨hg, e⟩ | ⟨M, hg, e⟩
          · rw [e] at HF2
            rw [if_neg (by omega)]
            have hdz := (hok hg).2.2.2.2.2.1
            have HPT := hPT R2 (by omega)
            clear hPT hok e hg
            dsimp only
            generalize putqL C name ⟨0, tries, dead⟩ = C' at *
            generalize errV (putqN C name ⟨0, tries, dead⟩) = ev at *
            intro S W w L0 hO; simp only [CA] at hO
            ((try clear hf); have hf := fa_ hO)
            go_enter Tryz.func54, Tryz.ntmps54
            go_wp2_with (first | (go_at_call 115; (with_reducible apply Does.use hO (HF); (focus exact tk_); clear hO; intro x9 w9 hO; dsimp only at hO ⊢; simp only [CA] at hO; ((try clear hf); have hf := fa_ hO))) | (go_at_call 115; (with_reducible apply Does.use hO (HF2); (focus exact tk_); clear hO; intro x9 w9 hO; dsimp only at hO ⊢; simp only [CA] at hO; ((try clear hf); have hf := fa_ hO))) | (go_at_call 122; (with_reducible apply Does.use hO (HPT); (focus exact tk_); clear hO; intro x9 w9 hO; dsimp only at hO ⊢; simp only [CA] at hO; ((try clear hf); have hf := fa_ hO))) | ((refine sy_ hO ?_); clear hO; intro w9 hO; (try dsimp only [List.set] at hO); ((try clear hf); have hf := fa_ hO)))
            all_goals try (exfalso; simp_all; done)
            go_ret
            refine ⟨(), rfl, ?_⟩
            (try simp only [CA])
            exact hO.cut sb_
          · rw [e] at HF2
            rw [if_pos hg]
            dsimp only
            rw [e]
            clear hPT hok e hg
            intro S W w L0 hO; simp only [CA] at hO
            ((try clear hf); have hf := fa_ hO)
            go_enter Tryz.func54, Tryz.ntmps54
            go_wp2_with (first | (go_at_call 115; (with_reducible apply Does.use hO (HF); (focus exact tk_); clear hO; intro x9 w9 hO; dsimp only at hO ⊢; simp only [CA] at hO; ((try clear hf); have hf := fa_ hO))) | (go_at_call 115; (with_reducible apply Does.use hO (HF2); (focus exact tk_); clear hO; intro x9 w9 hO; dsimp only at hO ⊢; simp only [CA] at hO; ((try clear hf); have hf := fa_ hO))) | ((refine sy_ hO ?_); clear hO; intro w9 hO; (try dsimp only [List.set] at hO); ((try clear hf); have hf := fa_ hO)))
            all_goals try (exfalso; simp_all; done)
            go_ret
            refine ⟨(), rfl, ?_⟩
            (try simp only [CA])
            exact hO.cut sb_
set_option maxHeartbeats 8000000 in
set_option maxRecDepth 100000 in
theorem rCreate_does (q since : Nat) (ra : Option Addr) (rc : Nat) (rows : List Rw) (C : List Ch) (R : List Sp) (name : ByteArray) (tries : Int) (dead : ByteArray) (hys : ∀ k, (valR rows k).1.size ≤ 100) (hCs : ∀ c ∈ C, c.val.size ≤ 100)
    (hk : name.size ≤ 200) (hdk : dead.size ≤ 200) (hrl : rows.length ≤ 100000) (hC : C.length ≤ 300) (hU : Ups C) (hR : R.length ≤ 40) :
    Does Tryz.prog 110 #[.pointer (some ⟨q, 0, none⟩), .string name, .int .i64 tries, .string dead] [RViewR q since ra rc rows C R]
      (fun _ : Unit => (.int .i64 (createA (valR rows) C R name tries dead).1, [RViewR q since ra rc rows (createA (valR rows) C R name tries dead).2.1 (createA (valR rows) C R name tries dead).2.2])) := by
  have HF := rFind_does q since ra rc rows C R name (hys _) hCs hk hrl (by omega) hR
  have hR2 := findR_len (C := C) (k := name) hR
  have HF2 := rFind_does q since ra rc rows C (findR C R name) dead (hys _) hCs hdk hrl (by omega) hR2
  have hok := findN_ok (y := valR rows (queB dead)) (C := C) (R := findR C R name) (name := dead)
  have hPT := fun R' (h : dead.size ≤ 50) => rPut_does q since ra rc rows C R' name ⟨0, tries, dead⟩ h hk (by omega) hU
  unfold createA
  generalize findN (valR rows (queB name)) C R name = f at *
  generalize findN (valR rows (queB dead)) C (findR C R name) dead = g at *
  generalize findR C (findR C R name) dead = R2 at *
  generalize findR C R name = R1 at *
  obtain ⟨⟨un, ut, ud⟩, f2⟩ := f
  obtain ⟨⟨gn, gt, gd⟩, g2⟩ := g
  unfold Qu.v at HF HF2 hPT
  dsimp only at HF HF2 hPT hok ⊢
  by_cases h0 : f2 = 0
  · subst h0
    rw [if_pos rfl]
    clear HF2 hPT hok
    intro S W w L0 hO; simp only [CA] at hO
    ((try clear hf); have hf := fa_ hO)
    go_enter Tryz.func110, Tryz.ntmps110
    go_wp2_with (first | (go_at_call 116; (with_reducible apply Does.use hO (HF); (focus exact tk_); clear hO; intro x9 w9 hO; dsimp only at hO ⊢; simp only [CA] at hO; ((try clear hf); have hf := fa_ hO))) | ((refine sy_ hO ?_); clear hO; intro w9 hO; (try dsimp only [List.set] at hO); ((try clear hf); have hf := fa_ hO)))
    go_ret
    refine ⟨(), rfl, ?_⟩
    (try simp only [CA])
    exact hO.cut sb_
  · rw [if_neg h0]
    by_cases h5 : f2 ≠ 5
    · rw [if_pos h5]
      dsimp only
      have h7 : ¬ (f2 : Int) = 5 := by omega
      have h8 : ¬ (f2 : Int) = 0 := by omega
      clear HF2 hPT hok
      intro S W w L0 hO; simp only [CA] at hO
      ((try clear hf); have hf := fa_ hO)
      go_enter Tryz.func110, Tryz.ntmps110
      go_wp2_with (first | (go_at_call 116; (with_reducible apply Does.use hO (HF); (focus exact tk_); clear hO; intro x9 w9 hO; dsimp only at hO ⊢; simp only [CA] at hO; ((try clear hf); have hf := fa_ hO))) | ((refine sy_ hO ?_); clear hO; intro w9 hO; (try dsimp only [List.set] at hO); ((try clear hf); have hf := fa_ hO)))
      all_goals try (exfalso; omega; done)
      go_ret
      refine ⟨(), rfl, ?_⟩
      (try simp only [CA])
      exact hO.cut sb_
    · rw [if_neg h5]
      obtain rfl : f2 = 5 := by omega
      clear h0 h5
      by_cases hdn : dead = name
      · subst hdn
        rw [if_pos rfl]
        clear HF2 hPT hok
        intro S W w L0 hO; simp only [CA] at hO
        ((try clear hf); have hf := fa_ hO)
        go_enter Tryz.func110, Tryz.ntmps110
        go_wp2_with (first | (go_at_call 116; (with_reducible apply Does.use hO (HF); (focus exact tk_); clear hO; intro x9 w9 hO; dsimp only at hO ⊢; simp only [CA] at hO; ((try clear hf); have hf := fa_ hO))) | ((refine sy_ hO ?_); clear hO; intro w9 hO; (try dsimp only [List.set] at hO); ((try clear hf); have hf := fa_ hO)))
        all_goals try (exfalso; omega; done)
        go_ret
        refine ⟨(), rfl, ?_⟩
        (try simp only [CA])
        exact hO.cut sb_
      · rw [if_neg hdn]
        have h1 : ¬ dead.toList = name.toList := fun h => hdn (toList_inj h)
        have h2 : (dead.toList == name.toList) = false := by simpa using h1
        by_cases hd0 : dead = ⟨#[]⟩
        · rw [if_pos hd0]
          have HPT := hPT R1 (by rw [hd0]; exact Nat.zero_le _)
          have h3 : dead.toList = [] := by rw [hd0, ByteArray.toList_eq]
          clear HF2 hPT hok hdn hd0
          dsimp only
          generalize putqL C name ⟨0, tries, dead⟩ = C' at *
          generalize putqN C name ⟨0, tries, dead⟩ = N at *
          intro S W w L0 hO; simp only [CA] at hO
          ((try clear hf); have hf := fa_ hO)
          go_enter Tryz.func110, Tryz.ntmps110
          go_wp2_with (first | (go_at_call 116; (with_reducible apply Does.use hO (HF); (focus exact tk_); clear hO; intro x9 w9 hO; dsimp only at hO ⊢; simp only [CA] at hO; ((try clear hf); have hf := fa_ hO))) | (go_at_call 167; (with_reducible apply Does.use hO (HPT); (focus exact tk_); clear hO; intro x9 w9 hO; dsimp only at hO ⊢; simp only [CA] at hO; ((try clear hf); have hf := fa_ hO))) | ((refine sy_ hO ?_); clear hO; intro w9 hO; (try dsimp only [List.set] at hO); ((try clear hf); have hf := fa_ hO)))
          all_goals try (exfalso; simp_all; done)
          go_ret
          refine ⟨(), rfl, ?_⟩
          (try simp only [CA])
          exact hO.cut sb_
        · rw [if_neg hd0]
          have h3 : ¬ dead.toList = [] := fun h => hd0 (toList_inj (h.trans (by rw [ByteArray.toList_eq])))
          clear hdn hd0
          by_cases hg : g2 ≠ 0
          · rw [if_pos hg]
            dsimp only
            have h8 : ¬ (g2 : Int) = 0 := by omega
            clear hPT hok
            intro S W w L0 hO; simp only [CA] at hO
            ((try clear hf); have hf := fa_ hO)
            go_enter Tryz.func110, Tryz.ntmps110
            go_wp2_with (first | (go_at_call 116; (with_reducible apply Does.use hO (HF); (focus exact tk_); clear hO; intro x9 w9 hO; dsimp only at hO ⊢; simp only [CA] at hO; ((try clear hf); have hf := fa_ hO))) | (go_at_call 116; (with_reducible apply Does.use hO (HF2); (focus exact tk_); clear hO; intro x9 w9 hO; dsimp only at hO ⊢; simp only [CA] at hO; ((try clear hf); have hf := fa_ hO))) | ((refine sy_ hO ?_); clear hO; intro w9 hO; (try dsimp only [List.set] at hO); ((try clear hf); have hf := fa_ hO)))
            all_goals try (exfalso; omega; done)
            all_goals try (exfalso; simp_all; done)
            go_ret
            refine ⟨(), rfl, ?_⟩
            (try simp only [CA])
            exact hO.cut sb_
          · obtain rfl : g2 = 0 := by omega
            rw [if_neg hg]
            have hdz := (hok rfl).2.2.2.2.2.1
            have HPT := hPT R2 (by omega)
            clear hPT hok hg
            dsimp only
            generalize putqL C name ⟨0, tries, dead⟩ = C' at *
            generalize putqN C name ⟨0, tries, dead⟩ = N at *
            intro S W w L0 hO; simp only [CA] at hO
            ((try clear hf); have hf := fa_ hO)
            go_enter Tryz.func110, Tryz.ntmps110
            go_wp2_with (first | (go_at_call 116; (with_reducible apply Does.use hO (HF); (focus exact tk_); clear hO; intro x9 w9 hO; dsimp only at hO ⊢; simp only [CA] at hO; ((try clear hf); have hf := fa_ hO))) | (go_at_call 116; (with_reducible apply Does.use hO (HF2); (focus exact tk_); clear hO; intro x9 w9 hO; dsimp only at hO ⊢; simp only [CA] at hO; ((try clear hf); have hf := fa_ hO))) | (go_at_call 167; (with_reducible apply Does.use hO (HPT); (focus exact tk_); clear hO; intro x9 w9 hO; dsimp only at hO ⊢; simp only [CA] at hO; ((try clear hf); have hf := fa_ hO))) | ((refine sy_ hO ?_); clear hO; intro w9 hO; (try dsimp only [List.set] at hO); ((try clear hf); have hf := fa_ hO)))
            all_goals try (exfalso; simp_all; done)
            go_ret
            refine ⟨(), rfl, ?_⟩
            (try simp only [CA])
            exact hO.cut sb_
end Go.Proofs.YtmknhibaoopjjaaGreatDoor
namespace Go.Proofs.YtmknhibaoopjjaaGreatDoor
open Go.RowKit
noncomputable def setN (C : List Ch) (name : ByteArray) (m : Ms) : Nat := if m.txt.2 ≠ 0 then m.txt.2 else putN C ⟨msgB name m.num.toNat, m.txt.1, false⟩
noncomputable def setL (C : List Ch) (name : ByteArray) (m : Ms) : List Ch := if m.txt.2 ≠ 0 then C else putL C ⟨msgB name m.num.toNat, m.txt.1, false⟩
/-- A message that one has: what it is, or what is wrong. -/
noncomputable def mineA (B : ByteArray → ByteArray × Bool) (C : List Ch) (R : List Sp) (name : ByteArray) (n tries : Int) : Ms × Nat :=
  if (findN (B (queB name)) C R name).2 ≠ 0 then (Ms.z, (findN (B (queB name)) C R name).2) else if n < 0 ∨ 999999 < n ∨ tries < 1 then (Ms.z, 1)
  else if (getG (B (msgB name n.toNat)) C (findR C R name) (msgB name n.toNat)).2.2 ≠ 0 then (Ms.z, (getG (B (msgB name n.toNat)) C (findR C R name) (msgB name n.toNat)).2.2)
  else if (getG (B (msgB name n.toNat)) C (findR C R name) (msgB name n.toNat)).2.1 = false then (Ms.z, 11)
  else if (msOf n (getG (B (msgB name n.toNat)) C (findR C R name) (msgB name n.toNat)).1).2 ≠ 0 then (Ms.z, (msOf n (getG (B (msgB name n.toNat)) C (findR C R name) (msgB name n.toNat)).1).2)
  else if (msOf n (getG (B (msgB name n.toNat)) C (findR C R name) (msgB name n.toNat)).1).1.tries ≠ tries then (Ms.z, 11)
  else ((msOf n (getG (B (msgB name n.toNat)) C (findR C R name) (msgB name n.toNat)).1).1, 0)
noncomputable def mineR (B : ByteArray → ByteArray × Bool) (C : List Ch) (R : List Sp) (name : ByteArray) (n tries : Int) : List Sp :=
  if (findN (B (queB name)) C R name).2 ≠ 0 ∨ n < 0 ∨ 999999 < n ∨ tries < 1 then findR C R name else getB C (findR C R name) (msgB name n.toNat)
set_option maxHeartbeats 4000000 in
set_option maxRecDepth 100000 in
theorem qset_does (q p since : Nat) (C : List Ch) (R : List Sp) (name : ByteArray) (m : Ms) (hm : m.num ≤ 999999) (hk : name.size ≤ 200) (hC : C.length ≤ 800) (hU : Ups C) {φ : World → Prop} (hφ : ∀ w, φ w → LibOk w) :
    Does Tryz.prog 131 #[.pointer (some ⟨q, 0, none⟩), .string name, m.v] [ViewR q p since C R, .imm φ] (fun _ : Unit => (errV (setN C name m), [ViewR q p since (setL C name m) R, .imm φ])) := by
  have HMT := fun w h => mtxt_any m w h
  have HMG := fun w h => message_any name m.num w (by omega) h (by omega)
  have hts := m.txt_size
  have hms := msgB_size name m.num.toNat
  unfold setN setL
  generalize m.txt = t at *
  obtain ⟨t1, t2⟩ := t
  dsimp only at HMT hts ⊢
  have HP := vPut_does q p since C R (msgB name m.num.toNat) t1 (by omega) (by omega) hC hU hφ
  obtain ⟨mn, mt, mu, mb⟩ := m
  unfold Ms.v at HMT ⊢
  dsimp only at *
  generalize msgB name mn.toNat = k at *
  rcases errV_or t2 with ⟨h0, e⟩ | ⟨M, h0, e⟩
  · rw [e] at HMT
    rw [if_neg (by omega), if_neg (by omega)]
    clear e h0
    generalize putL C ⟨k, t1, false⟩ = C' at *
    generalize errV (putN C ⟨k, t1, false⟩) = ev at *
    intro S W w L0 hO; simp only [CA] at hO
    ((try clear hf); have hf := fa_ hO)
    go_enter Tryz.func131, Tryz.ntmps131
    go_wp2_with (first | (go_at_call 182; (with_reducible apply Calls.mono (HMT _ (hφ _ (Own.immOf (φ := φ) hO pk_))); rintro e8 w8 ⟨rfl, hx8⟩; replace hO := hO.ext hx8; clear hx8; dsimp only; ((try clear hf); have hf := fa_ hO))) | (go_at_call 129; (with_reducible apply Calls.mono (HMG _ (hφ _ (Own.immOf (φ := φ) hO pk_))); rintro e8 w8 ⟨rfl, hx8⟩; replace hO := hO.ext hx8; clear hx8; dsimp only; ((try clear hf); have hf := fa_ hO))) | (go_at_call 20; (with_reducible apply Does.use hO (HP); (focus exact tk_); clear hO; intro x9 w9 hO; dsimp only at hO ⊢; simp only [CA] at hO; ((try clear hf); have hf := fa_ hO))) | ((refine sy_ hO ?_); clear hO; intro w9 hO; (try dsimp only [List.set] at hO); ((try clear hf); have hf := fa_ hO)))
    go_ret
    refine ⟨(), rfl, ?_⟩
    (try simp only [CA])
    exact hO.cut sb_
  · rw [e] at HMT
    rw [if_pos h0, if_pos h0, e]
    clear HP e h0
    intro S W w L0 hO; simp only [CA] at hO
    ((try clear hf); have hf := fa_ hO)
    go_enter Tryz.func131, Tryz.ntmps131
    go_wp2_with (first | (go_at_call 182; (with_reducible apply Calls.mono (HMT _ (hφ _ (Own.immOf (φ := φ) hO pk_))); rintro e8 w8 ⟨rfl, hx8⟩; replace hO := hO.ext hx8; clear hx8; dsimp only; ((try clear hf); have hf := fa_ hO))) | ((refine sy_ hO ?_); clear hO; intro w9 hO; (try dsimp only [List.set] at hO); ((try clear hf); have hf := fa_ hO)))
    go_ret
    refine ⟨(), rfl, ?_⟩
    (try simp only [CA])
    exact hO.cut sb_
set_option maxHeartbeats 8000000 in
set_option maxRecDepth 100000 in
theorem qmine_does (q p since nn : Nat) (V : List (ByteArray × List Vn)) (B : ByteArray → ByteArray × Bool) (C : List Ch) (R : List Sp) (name : ByteArray) (n tries : Int) (hy : ∀ k, readV V k since = B k) (hys : ∀ k, (B k).1.size ≤ 100) (hCs : ∀ c ∈ C, c.val.size ≤ 100)
    (hk : name.size ≤ 200) (hC : C.length ≤ 700) (hU : Ups C) (hR : R.length ≤ 40) (hV : ∀ e ∈ V, e.2.length ≤ 1000000) {φ : World → Prop} (hφ : ∀ w, φ w → LibOk w) :
    Does Tryz.prog 134 #[.pointer (some ⟨q, 0, none⟩), .string name, .int .i64 n, .int .i64 tries] [ViewR q p since C R, VerR p nn V, .imm φ]
      (fun _ : Unit => (.tuple #[(mineA B C R name n tries).1.v, errV (mineA B C R name n tries).2], [ViewR q p since C (mineR B C R name n tries), VerR p nn V, .imm φ])) := by
  have HF := qFind_does q p since nn V C R name _ (hy _) (hys _) hCs hk (by omega) hU hR hV hφ
  have hR2 := findR_len (C := C) (k := name) hR
  have hms := msgB_size name n.toNat
  have HGT := vget_does q p since nn V C (findR C R name) (msgB name n.toNat) (by omega) (by omega) hU hR2 hV hφ
  rw [getA_G, hy] at HGT
  have hgs := getG_size (R := findR C R name) (k := msgB name n.toNat) (hys (msgB name n.toNat)) hCs
  unfold mineA mineR
  generalize findN (B (queB name)) C R name = f at *
  generalize getG (B (msgB name n.toNat)) C (findR C R name) (msgB name n.toNat) = g at *
  generalize getB C (findR C R name) (msgB name n.toNat) = R2 at *
  generalize findR C R name = R1 at *
  obtain ⟨⟨un, ut, ud⟩, f2⟩ := f
  obtain ⟨g1, g2, g3⟩ := g
  unfold Qu.v at HF
  dsimp only at HF HGT hgs ⊢
  rcases errV_or f2 with ⟨h0, e⟩ | ⟨M, h0, e⟩
  · rw [e] at HF
    rw [if_neg (by omega)]
    by_cases hb : n < 0 ∨ 999999 < n ∨ tries < 1
    · rw [if_pos hb, if_pos (.inr hb)]
      unfold Ms.v Ms.z
      rw [show errV 1 = .iface 127 (.int .i64 1) from rfl]
      clear HGT e h0
      intro S W w L0 hO; simp only [CA] at hO
      ((try clear hf); have hf := fa_ hO)
      go_enter Tryz.func134, Tryz.ntmps134
      go_wp2_with (first | (go_at_call 115; (with_reducible apply Does.use hO (HF); (focus exact tk_); clear hO; intro x9 w9 hO; dsimp only at hO ⊢; simp only [CA] at hO; ((try clear hf); have hf := fa_ hO))) | ((refine sy_ hO ?_); clear hO; intro w9 hO; (try dsimp only [List.set] at hO); ((try clear hf); have hf := fa_ hO)))
      all_goals try (exfalso; omega; done)
      all_goals ((refine bodyPost_run rfl fun K hK => ?_; simp [results, Tryz.results134, go_sem, hf]; refine hK _ ⟨(), ?_, ?_⟩); (focus rfl); (focus ((try simp only [CA]); exact hO.cut sb_)))
    · rw [if_neg hb, if_neg (show ¬ (f2 ≠ 0 ∨ n < 0 ∨ 999999 < n ∨ tries < 1) by omega)]
      have HMG := fun w h => message_any name n w (by omega) h (by omega)
      generalize msgB name n.toNat = k at *
      clear hms
      rcases errV_or g3 with ⟨h3, e3⟩ | ⟨M, h3, e3⟩
      · rw [e3] at HGT
        rw [if_neg (by omega)]
        clear e3 h3 e h0
        cases g2 with
        | false =>
          rw [if_pos rfl]
          unfold Ms.v Ms.z
          rw [show errV 11 = .iface 127 (.int .i64 11) from rfl]
          intro S W w L0 hO; simp only [CA] at hO
          ((try clear hf); have hf := fa_ hO)
          go_enter Tryz.func134, Tryz.ntmps134
          go_wp2_with (first | (go_at_call 115; (with_reducible apply Does.use hO (HF); (focus exact tk_); clear hO; intro x9 w9 hO; dsimp only at hO ⊢; simp only [CA] at hO; ((try clear hf); have hf := fa_ hO))) | (go_at_call 129; (with_reducible apply Calls.mono (HMG _ (hφ _ (Own.immOf (φ := φ) hO pk_))); rintro e8 w8 ⟨rfl, hx8⟩; replace hO := hO.ext hx8; clear hx8; dsimp only; ((try clear hf); have hf := fa_ hO))) | (go_at_call 27; (with_reducible apply Does.use hO (HGT); (focus exact tk_); clear hO; intro x9 w9 hO; dsimp only at hO ⊢; simp only [CA] at hO; ((try clear hf); have hf := fa_ hO))) | ((refine sy_ hO ?_); clear hO; intro w9 hO; (try dsimp only [List.set] at hO); ((try clear hf); have hf := fa_ hO)))
          all_goals try (exfalso; omega; done)
          ((refine bodyPost_run rfl fun K hK => ?_; simp [results, Tryz.results134, go_sem, hf]; refine hK _ ⟨(), ?_, ?_⟩); (focus rfl); (focus ((try simp only [CA]); exact hO.cut sb_)))
        | true =>
          rw [if_neg Bool.noConfusion]
          have HMP := fun w h => mpar_any n g1 hgs w h
          generalize msOf n g1 = r at *
          obtain ⟨⟨rn, rt, ru, rb⟩, r2⟩ := r
          unfold Ms.v at HMP
          dsimp only at HMP ⊢
          rcases errV_or r2 with ⟨h4, e4⟩ | ⟨M, h4, e4⟩
          · rw [e4] at HMP
            rw [if_neg (by omega)]
            clear e4 h4
            by_cases ht : rt ≠ tries
            · rw [if_pos ht]
              unfold Ms.v Ms.z
              rw [show errV 11 = .iface 127 (.int .i64 11) from rfl]
              intro S W w L0 hO; simp only [CA] at hO
              ((try clear hf); have hf := fa_ hO)
              go_enter Tryz.func134, Tryz.ntmps134
              go_wp2_with (first | (go_at_call 115; (with_reducible apply Does.use hO (HF); (focus exact tk_); clear hO; intro x9 w9 hO; dsimp only at hO ⊢; simp only [CA] at hO; ((try clear hf); have hf := fa_ hO))) | (go_at_call 129; (with_reducible apply Calls.mono (HMG _ (hφ _ (Own.immOf (φ := φ) hO pk_))); rintro e8 w8 ⟨rfl, hx8⟩; replace hO := hO.ext hx8; clear hx8; dsimp only; ((try clear hf); have hf := fa_ hO))) | (go_at_call 27; (with_reducible apply Does.use hO (HGT); (focus exact tk_); clear hO; intro x9 w9 hO; dsimp only at hO ⊢; simp only [CA] at hO; ((try clear hf); have hf := fa_ hO))) | (go_at_call 133; (with_reducible apply Calls.mono (HMP _ (hφ _ (Own.immOf (φ := φ) hO pk_))); rintro e8 w8 ⟨rfl, hx8⟩; replace hO := hO.ext hx8; clear hx8; dsimp only; ((try clear hf); have hf := fa_ hO))) | ((refine sy_ hO ?_); clear hO; intro w9 hO; (try dsimp only [List.set] at hO); ((try clear hf); have hf := fa_ hO)))
              all_goals try (exfalso; simp_all; done)
              all_goals try (exfalso; omega; done)
              ((refine bodyPost_run rfl fun K hK => ?_; simp [results, Tryz.results134, go_sem, hf]; refine hK _ ⟨(), ?_, ?_⟩); (focus rfl); (focus ((try simp only [CA]); exact hO.cut sb_)))
            · rw [if_neg ht]
              obtain rfl : rt = tries := by omega
              unfold Ms.v
              rw [show errV 0 = .nilIface from rfl]
              clear ht
              intro S W w L0 hO; simp only [CA] at hO
              ((try clear hf); have hf := fa_ hO)
              go_enter Tryz.func134, Tryz.ntmps134
              go_wp2_with (first | (go_at_call 115; (with_reducible apply Does.use hO (HF); (focus exact tk_); clear hO; intro x9 w9 hO; dsimp only at hO ⊢; simp only [CA] at hO; ((try clear hf); have hf := fa_ hO))) | (go_at_call 129; (with_reducible apply Calls.mono (HMG _ (hφ _ (Own.immOf (φ := φ) hO pk_))); rintro e8 w8 ⟨rfl, hx8⟩; replace hO := hO.ext hx8; clear hx8; dsimp only; ((try clear hf); have hf := fa_ hO))) | (go_at_call 27; (with_reducible apply Does.use hO (HGT); (focus exact tk_); clear hO; intro x9 w9 hO; dsimp only at hO ⊢; simp only [CA] at hO; ((try clear hf); have hf := fa_ hO))) | (go_at_call 133; (with_reducible apply Calls.mono (HMP _ (hφ _ (Own.immOf (φ := φ) hO pk_))); rintro e8 w8 ⟨rfl, hx8⟩; replace hO := hO.ext hx8; clear hx8; dsimp only; ((try clear hf); have hf := fa_ hO))) | ((refine sy_ hO ?_); clear hO; intro w9 hO; (try dsimp only [List.set] at hO); ((try clear hf); have hf := fa_ hO)))
              all_goals try (exfalso; omega; done)
              all_goals try (exfalso; simp_all; done)
              ((refine bodyPost_run rfl fun K hK => ?_; simp [results, Tryz.results134, go_sem, hf]; refine hK _ ⟨(), ?_, ?_⟩); (focus rfl); (focus ((try simp only [CA]); exact hO.cut sb_)))
          · rw [e4] at HMP
            rw [if_pos h4]
            unfold Ms.v Ms.z
            dsimp only
            rw [e4]
            clear e4
            intro S W w L0 hO; simp only [CA] at hO
            ((try clear hf); have hf := fa_ hO)
            go_enter Tryz.func134, Tryz.ntmps134
            go_wp2_with (first | (go_at_call 115; (with_reducible apply Does.use hO (HF); (focus exact tk_); clear hO; intro x9 w9 hO; dsimp only at hO ⊢; simp only [CA] at hO; ((try clear hf); have hf := fa_ hO))) | (go_at_call 129; (with_reducible apply Calls.mono (HMG _ (hφ _ (Own.immOf (φ := φ) hO pk_))); rintro e8 w8 ⟨rfl, hx8⟩; replace hO := hO.ext hx8; clear hx8; dsimp only; ((try clear hf); have hf := fa_ hO))) | (go_at_call 27; (with_reducible apply Does.use hO (HGT); (focus exact tk_); clear hO; intro x9 w9 hO; dsimp only at hO ⊢; simp only [CA] at hO; ((try clear hf); have hf := fa_ hO))) | (go_at_call 133; (with_reducible apply Calls.mono (HMP _ (hφ _ (Own.immOf (φ := φ) hO pk_))); rintro e8 w8 ⟨rfl, hx8⟩; replace hO := hO.ext hx8; clear hx8; dsimp only; ((try clear hf); have hf := fa_ hO))) | ((refine sy_ hO ?_); clear hO; intro w9 hO; (try dsimp only [List.set] at hO); ((try clear hf); have hf := fa_ hO)))
            all_goals try (exfalso; omega; done)
            ((refine bodyPost_run rfl fun K hK => ?_; simp [results, Tryz.results134, go_sem, hf]; refine hK _ ⟨(), ?_, ?_⟩); (focus rfl); (focus ((try simp only [CA]); exact hO.cut sb_)))
      · rw [e3] at HGT
        rw [if_pos h3]
        unfold Ms.v Ms.z
        dsimp only
        rw [e3]
        clear e3 e
        intro S W w L0 hO; simp only [CA] at hO
        ((try clear hf); have hf := fa_ hO)
        go_enter Tryz.func134, Tryz.ntmps134
        go_wp2_with (first | (go_at_call 115; (with_reducible apply Does.use hO (HF); (focus exact tk_); clear hO; intro x9 w9 hO; dsimp only at hO ⊢; simp only [CA] at hO; ((try clear hf); have hf := fa_ hO))) | (go_at_call 129; (with_reducible apply Calls.mono (HMG _ (hφ _ (Own.immOf (φ := φ) hO pk_))); rintro e8 w8 ⟨rfl, hx8⟩; replace hO := hO.ext hx8; clear hx8; dsimp only; ((try clear hf); have hf := fa_ hO))) | (go_at_call 27; (with_reducible apply Does.use hO (HGT); (focus exact tk_); clear hO; intro x9 w9 hO; dsimp only at hO ⊢; simp only [CA] at hO; ((try clear hf); have hf := fa_ hO))) | ((refine sy_ hO ?_); clear hO; intro w9 hO; (try dsimp only [List.set] at hO); ((try clear hf); have hf := fa_ hO)))
        all_goals try (exfalso; omega; done)
        ((refine bodyPost_run rfl fun K hK => ?_; simp [results, Tryz.results134, go_sem, hf]; refine hK _ ⟨(), ?_, ?_⟩); (focus rfl); (focus ((try simp only [CA]); exact hO.cut sb_)))
  · rw [e] at HF
    rw [if_pos h0, if_pos (.inl h0)]
    unfold Ms.v Ms.z
    dsimp only
    rw [e]
    clear HGT e
    intro S W w L0 hO; simp only [CA] at hO
    ((try clear hf); have hf := fa_ hO)
    go_enter Tryz.func134, Tryz.ntmps134
    go_wp2_with (first | (go_at_call 115; (with_reducible apply Does.use hO (HF); (focus exact tk_); clear hO; intro x9 w9 hO; dsimp only at hO ⊢; simp only [CA] at hO; ((try clear hf); have hf := fa_ hO))) | ((refine sy_ hO ?_); clear hO; intro w9 hO; (try dsimp only [List.set] at hO); ((try clear hf); have hf := fa_ hO)))
    ((refine bodyPost_run rfl fun K hK => ?_; simp [results, Tryz.results134, go_sem, hf]; refine hK _ ⟨(), ?_, ?_⟩); (focus rfl); (focus ((try simp only [CA]); exact hO.cut sb_)))
end Go.Proofs.YtmknhibaoopjjaaGreatDoor
namespace Go.Proofs.YtmknhibaoopjjaaGreatDoor
open Go.RowKit
noncomputable def ackA (B : ByteArray → ByteArray × Bool) (C : List Ch) (R : List Sp) (name : ByteArray) (n tries : Int) : Nat × List Ch :=
  if (mineA B C R name n tries).2 ≠ 0 then ((mineA B C R name n tries).2, C) else (putN C ⟨msgB name n.toNat, ⟨#[]⟩, true⟩, putL C ⟨msgB name n.toNat, ⟨#[]⟩, true⟩)
def Ms.till (m : Ms) (t : Int) : Ms := ⟨m.num, m.tries, t, m.body⟩
noncomputable def waitA (B : ByteArray → ByteArray × Bool) (C : List Ch) (R : List Sp) (name : ByteArray) (n tries til : Int) : Nat × List Ch :=
  if (mineA B C R name n tries).2 ≠ 0 then ((mineA B C R name n tries).2, C) else if timeN [til] ≠ 0 then (1, C)
  else (setN C name ((mineA B C R name n tries).1.till til), setL C name ((mineA B C R name n tries).1.till til))
theorem mineA_ok {B : ByteArray → ByteArray × Bool} {C : List Ch} {R : List Sp} {name : ByteArray} {n tries : Int} (h : (mineA B C R name n tries).2 = 0) : 0 ≤ n ∧ n ≤ 999999 ∧ (mineA B C R name n tries).1.num = n ∧ ¬ (mineA B C R name n tries).1.bad := by
  unfold mineA at *
  split at h
  · rename_i h1; exact absurd h h1
  · rename_i h1
    rw [if_neg h1]
    split at h
    · cases h
    · rename_i h2
      rw [if_neg h2]
      split at h
      · rename_i h3; exact absurd h h3
      · rename_i h3
        rw [if_neg h3]
        split at h
        · cases h
        · rename_i h4
          rw [if_neg h4]
          split at h
          · rename_i h5; exact absurd h h5
          · rename_i h5
            rw [if_neg h5]
            split at h
            · cases h
            · rename_i h6
              rw [if_neg h6]
              refine ⟨by omega, by omega, ?_⟩
              rcases msOf_cases n (getG (B (msgB name n.toNat)) C (findR C R name) (msgB name n.toNat)).1 with ⟨m, hm, hn, hb, _⟩ | ⟨hm, _⟩
              · rw [hm]; exact ⟨hn, hb⟩
              · rw [hm] at h5; exact absurd rfl (fun e : (4 : Nat) = 4 => h5 (by decide))
set_option maxHeartbeats 8000000 in
set_option maxRecDepth 100000 in
theorem qack_does (q p since nn : Nat) (V : List (ByteArray × List Vn)) (B : ByteArray → ByteArray × Bool) (C : List Ch) (R : List Sp) (name : ByteArray) (n tries : Int) (hy : ∀ k, readV V k since = B k) (hys : ∀ k, (B k).1.size ≤ 100) (hCs : ∀ c ∈ C, c.val.size ≤ 100)
    (hk : name.size ≤ 200) (hC : C.length ≤ 700) (hU : Ups C) (hR : R.length ≤ 40) (hV : ∀ e ∈ V, e.2.length ≤ 1000000) {φ : World → Prop} (hφ : ∀ w, φ w → LibOk w) :
    Does Tryz.prog 58 #[.pointer (some ⟨q, 0, none⟩), .string name, .int .i64 n, .int .i64 tries] [ViewR q p since C R, VerR p nn V, .imm φ]
      (fun _ : Unit => (errV (ackA B C R name n tries).1, [ViewR q p since (ackA B C R name n tries).2 (mineR B C R name n tries), VerR p nn V, .imm φ])) := by
  have HM := qmine_does q p since nn V B C R name n tries hy hys hCs hk hC hU hR hV hφ
  have hok := mineA_ok (B := B) (C := C) (R := R) (name := name) (n := n) (tries := tries)
  have hms := msgB_size name n.toNat
  have HP := vDelete_does q p since C (mineR B C R name n tries) (msgB name n.toNat) (by omega) (by omega) hU hφ
  unfold ackA
  generalize mineA B C R name n tries = m at *
  generalize mineR B C R name n tries = R2 at *
  obtain ⟨⟨mn, mt, mu, mb⟩, m2⟩ := m
  unfold Ms.v at HM
  dsimp only at HM hok ⊢
  clear hms
  rcases errV_or m2 with ⟨h0, e⟩ | ⟨M, h0, e⟩
  · rw [e] at HM
    rw [if_neg (by omega)]
    obtain ⟨hn0, hn1, _⟩ := hok h0
    have HMG := fun w h => message_any name n w (by omega) h (by omega)
    clear hok e h0
    dsimp only
    generalize msgB name n.toNat = k at *
    generalize putL C ⟨k, ⟨#[]⟩, true⟩ = C' at *
    generalize errV (putN C ⟨k, ⟨#[]⟩, true⟩) = ev at *
    intro S W w L0 hO; simp only [CA] at hO
    ((try clear hf); have hf := fa_ hO)
    go_enter Tryz.func58, Tryz.ntmps58
    go_wp2_with (first | (go_at_call 134; (with_reducible apply Does.use hO (HM); (focus exact tk_); clear hO; intro x9 w9 hO; dsimp only at hO ⊢; simp only [CA] at hO; ((try clear hf); have hf := fa_ hO))) | (go_at_call 129; (with_reducible apply Calls.mono (HMG _ (hφ _ (Own.immOf (φ := φ) hO pk_))); rintro e8 w8 ⟨rfl, hx8⟩; replace hO := hO.ext hx8; clear hx8; dsimp only; ((try clear hf); have hf := fa_ hO))) | (go_at_call 22; (with_reducible apply Does.use hO (HP); (focus exact tk_); clear hO; intro x9 w9 hO; dsimp only at hO ⊢; simp only [CA] at hO; ((try clear hf); have hf := fa_ hO))) | ((refine sy_ hO ?_); clear hO; intro w9 hO; (try dsimp only [List.set] at hO); ((try clear hf); have hf := fa_ hO)))
    go_ret
    refine ⟨(), rfl, ?_⟩
    (try simp only [CA])
    exact hO.cut sb_
  · rw [e] at HM
    rw [if_pos h0]
    dsimp only
    rw [e]
    clear HP hok e
    intro S W w L0 hO; simp only [CA] at hO
    ((try clear hf); have hf := fa_ hO)
    go_enter Tryz.func58, Tryz.ntmps58
    go_wp2_with (first | (go_at_call 134; (with_reducible apply Does.use hO (HM); (focus exact tk_); clear hO; intro x9 w9 hO; dsimp only at hO ⊢; simp only [CA] at hO; ((try clear hf); have hf := fa_ hO))) | ((refine sy_ hO ?_); clear hO; intro w9 hO; (try dsimp only [List.set] at hO); ((try clear hf); have hf := fa_ hO)))
    go_ret
    refine ⟨(), rfl, ?_⟩
    (try simp only [CA])
    exact hO.cut sb_
set_option maxHeartbeats 8000000 in
set_option maxRecDepth 100000 in
theorem qwait_does (q p since nn : Nat) (V : List (ByteArray × List Vn)) (B : ByteArray → ByteArray × Bool) (C : List Ch) (R : List Sp) (name : ByteArray) (n tries til : Int) (hy : ∀ k, readV V k since = B k) (hys : ∀ k, (B k).1.size ≤ 100) (hCs : ∀ c ∈ C, c.val.size ≤ 100)
    (hk : name.size ≤ 200) (hC : C.length ≤ 700) (hU : Ups C) (hR : R.length ≤ 40) (hV : ∀ e ∈ V, e.2.length ≤ 1000000) {φ : World → Prop} (hφ : ∀ w, φ w → LibOk w) :
    Does Tryz.prog 59 #[.pointer (some ⟨q, 0, none⟩), .string name, .int .i64 n, .int .i64 tries, .int .i64 til] [ViewR q p since C R, VerR p nn V, .imm φ]
      (fun _ : Unit => (errV (waitA B C R name n tries til).1, [ViewR q p since (waitA B C R name n tries til).2 (mineR B C R name n tries), VerR p nn V, .imm φ])) := by
  have HM := qmine_does q p since nn V B C R name n tries hy hys hCs hk hC hU hR hV hφ
  have HTM := fun w b (h : (Var b [.int .i64 til] 3).facts w) => time_any (some ⟨b, 0, none⟩) 1 1 [til] w rfl (by omega) (time_one h)
  have hok := mineA_ok (B := B) (C := C) (R := R) (name := name) (n := n) (tries := tries)
  have hST := fun (h : (mineA B C R name n tries).1.num ≤ 999999) => qset_does q p since C (mineR B C R name n tries) name ((mineA B C R name n tries).1.till til) h hk (by omega) hU hφ
  unfold waitA
  generalize mineA B C R name n tries = m at *
  generalize mineR B C R name n tries = R2 at *
  obtain ⟨⟨mn, mt, mu, mb⟩, m2⟩ := m
  unfold Ms.v Ms.till at hST
  unfold Ms.v at HM
  unfold Ms.till
  dsimp only at HM hok hST ⊢
  rcases errV_or m2 with ⟨h0, e⟩ | ⟨M, h0, e⟩
  · rw [e] at HM
    rw [if_neg (by omega)]
    obtain ⟨hn0, hn1, hn2, _⟩ := hok h0
    have HST := hST (by omega)
    clear hok hST e h0 hn2 hn0 hn1
    rcases errV_or (timeN [til]) with ⟨h0, e⟩ | ⟨M, h0, e⟩
    · rw [e] at HTM
      rw [if_neg (by omega)]
      dsimp only
      clear e h0
      generalize setL C name ⟨mn, mt, til, mb⟩ = C' at *
      generalize errV (setN C name ⟨mn, mt, til, mb⟩) = ev at *
      intro S W w L0 hO; simp only [CA] at hO
      ((try clear hf); have hf := fa_ hO)
      go_enter Tryz.func59, Tryz.ntmps59
      go_wp2_with (first | (go_at_call 134; (with_reducible apply Does.use hO (HM); (focus exact tk_); clear hO; intro x9 w9 hO; dsimp only at hO ⊢; simp only [CA] at hO; ((try clear hf); have hf := fa_ hO))) | (go_at_call 123; (with_reducible apply Calls.mono (HTM _ _ (hO.factOf (r := Var _ [.int .i64 til] 3) pk_)); rintro e8 w8 ⟨rfl, hx8⟩; replace hO := hO.ext hx8; clear hx8; dsimp only; ((try clear hf); have hf := fa_ hO))) | (go_at_call 131; (with_reducible apply Does.use hO (HST); (focus exact tk_); clear hO; intro x9 w9 hO; dsimp only at hO ⊢; simp only [CA] at hO; ((try clear hf); have hf := fa_ hO))) | ((refine sy_ hO ?_); clear hO; intro w9 hO; (try dsimp only [List.set] at hO); ((try clear hf); have hf := fa_ hO)))
      go_ret
      refine ⟨(), rfl, ?_⟩
      (try simp only [CA])
      exact hO.cut sb_
    · rw [if_pos h0]
      have h1 : timeN [til] = 1 := by have := timeN_le [til]; omega
      rw [h1] at HTM
      rw [show errV 1 = .iface 127 (.int .i64 1) from rfl] at HTM ⊢
      clear HST h0 e h1
      intro S W w L0 hO; simp only [CA] at hO
      ((try clear hf); have hf := fa_ hO)
      go_enter Tryz.func59, Tryz.ntmps59
      go_wp2_with (first | (go_at_call 134; (with_reducible apply Does.use hO (HM); (focus exact tk_); clear hO; intro x9 w9 hO; dsimp only at hO ⊢; simp only [CA] at hO; ((try clear hf); have hf := fa_ hO))) | (go_at_call 123; (with_reducible apply Calls.mono (HTM _ _ (hO.factOf (r := Var _ [.int .i64 til] 3) pk_)); rintro e8 w8 ⟨rfl, hx8⟩; replace hO := hO.ext hx8; clear hx8; dsimp only; ((try clear hf); have hf := fa_ hO))) | ((refine sy_ hO ?_); clear hO; intro w9 hO; (try dsimp only [List.set] at hO); ((try clear hf); have hf := fa_ hO)))
      go_ret
      refine ⟨(), rfl, ?_⟩
      (try simp only [CA])
      exact hO.cut sb_
  · rw [e] at HM
    rw [if_pos h0]
    dsimp only
    rw [e]
    clear hST hok e HTM
    intro S W w L0 hO; simp only [CA] at hO
    ((try clear hf); have hf := fa_ hO)
    go_enter Tryz.func59, Tryz.ntmps59
    go_wp2_with (first | (go_at_call 134; (with_reducible apply Does.use hO (HM); (focus exact tk_); clear hO; intro x9 w9 hO; dsimp only at hO ⊢; simp only [CA] at hO; ((try clear hf); have hf := fa_ hO))) | ((refine sy_ hO ?_); clear hO; intro w9 hO; (try dsimp only [List.set] at hO); ((try clear hf); have hf := fa_ hO)))
    go_ret
    refine ⟨(), rfl, ?_⟩
    (try simp only [CA])
    exact hO.cut sb_
end Go.Proofs.YtmknhibaoopjjaaGreatDoor
namespace Go.Proofs.YtmknhibaoopjjaaGreatDoor
open Go.RowKit
/-- The first j digits of six. -/
def numP (n : Nat) : Nat → Nat
  | 0 => 0
  | 1 => n / 100000
  | 2 => n / 10000
  | 3 => n / 1000
  | 4 => n / 100
  | 5 => n / 10
  | _ => n
def numD (n : Nat) : Nat → Nat
  | 0 => n / 100000 % 10
  | 1 => n / 10000 % 10
  | 2 => n / 1000 % 10
  | 3 => n / 100 % 10
  | 4 => n / 10 % 10
  | _ => n % 10
theorem numP_next {n j : Nat} (hn : n < 1000000) (hj : j < 6) : numP n (j + 1) = 10 * numP n j + numD n j ∧ numD n j < 10 ∧ numP n j < 1000000 := by
  match j, hj with
  | 0, _ => simp only [numP, numD]; omega
  | 1, _ => simp only [numP, numD]; omega
  | 2, _ => simp only [numP, numD]; omega
  | 3, _ => simp only [numP, numD]; omega
  | 4, _ => simp only [numP, numD]; omega
  | 5, _ => simp only [numP, numD]; omega
theorem msgB_at (a : ByteArray) {n j : Nat} (hn : n < 1000000) (hj : j < 6) (h : a.size + 3 + j < (msgB a n).size) : (msgB a n)[a.size + 3 + j] = d8 (numD n j) := by
  have e : (msgB a n).data.toList = (109 :: 47 :: (a.data.toList ++ [47])) ++ esix n := by
    unfold msgB
    rw [app_data, app_data, app_data, app_data, show (six n).data.toList = esix (n % 1000000) from rfl, Nat.mod_eq_of_lt hn]
    simp only [List.append_assoc]
    show [109] ++ ([47] ++ (a.data.toList ++ ([47] ++ esix n))) = _
    simp only [List.cons_append, List.nil_append, List.append_assoc]
  have hl : (109 :: 47 :: (a.data.toList ++ [47]) : List UInt8).length = a.size + 3 := by
    simp only [List.length_cons, List.length_append, List.length_nil, Array.length_toList]; rfl
  have e2 : (msgB a n).data.toList[a.size + 3 + j]? = (esix n)[j]? := by
    rw [e, List.getElem?_append_right (by omega), hl, Nat.add_sub_cancel_left]
  have e3 : (msgB a n).data.toList[a.size + 3 + j]? = some (msgB a n)[a.size + 3 + j] := by
    rw [Array.getElem?_toList]
    exact Array.getElem?_eq_getElem h
  rw [e3] at e2
  have e4 : (esix n)[j]? = some (d8 (numD n j)) := by
    match j, hj with
    | 0, _ => rfl
    | 1, _ => rfl
    | 2, _ => rfl
    | 3, _ => rfl
    | 4, _ => rfl
    | 5, _ => rfl
  rw [e4] at e2
  injection e2
set_option maxHeartbeats 1000000 in
set_option maxRecDepth 100000 in
theorem rnumberOf_any (a : ByteArray) (n : Nat) (w : World) (ha : a.size ≤ 1000) (hn : n < 1000000) : Calls Tryz.prog 179 #[.string (msgB a n)] w fun e w' => e = .returned (.int .i64 n) ∧ w' = w := by
  have hs := msgB_size a n
  have hat : ∀ j, j < 6 → ∀ h, (msgB a n)[a.size + 3 + j]'h = d8 (numD n j) := fun j hj h => msgB_at a hn hj h
  generalize hkk : msgB a n = s at *
  clear hkk
  replace hat := Lib.hid hat
  have hsz := Lib.hid hs
  clear hs
  have hsb : a.size + 9 ≤ s.size ∧ s.size ≤ a.size + 9 := by have := hsz.out; omega
  obtain ⟨hs1, hs2⟩ := hsb
  go_enter Tryz.func179, Tryz.ntmps179
  go_wp2
  go_loop [3, 4] (fun v i => ∃ j : Nat, j ≤ 6 ∧ i = .int .i64 (a.size + 3 + j : Nat) ∧ v = .int .i64 (numP n j)) (fun _ i => s.size - (intOf i).toNat)
  case atStart => exact ⟨0, by omega, by go_num, rfl⟩
  case round =>
    obtain ⟨j, hj, rfl, rfl⟩ := hrel
    by_cases hlt : j < 6
    · obtain ⟨n1, n2, n3⟩ := numP_next hn hlt
      have hb : a.size + 3 + j < s.size := by omega
      have hc := hat.out j hlt hb
      have hd : (d8 (numD n j)).toNat = 48 + numD n j := d8_toNat _ n2
      go_wp2
      refine ⟨⟨j + 1, by omega, by go_num, ?_⟩, by simp [intOf]; omega⟩
      rw [n1]
      go_num
    · obtain rfl : j = 6 := by omega
      go_wp2
      go_ret
      exact ⟨rfl, rfl⟩
end Go.Proofs.YtmknhibaoopjjaaGreatDoor
namespace Go.Proofs.YtmknhibaoopjjaaGreatDoor
open Go.RowKit
theorem Ext.iter {a w : World} (h : Ext a w) (s : ByteArray) (pos : Nat) : Ext a (w.iter s pos) := h.alloc _
/-- The number in a message's key. -/
def numO (k : ByteArray) : Nat := valL (k.data.toList.drop (k.size - 6))
theorem valL_six {n : Nat} (hn : n < 1000000) : valL (esix n) = n := by
  unfold valL esix
  simp only [List.foldl_cons, List.foldl_nil]
  rw [d8_toNat _ (by omega), d8_toNat _ (by omega), d8_toNat _ (by omega), d8_toNat _ (by omega), d8_toNat _ (by omega), d8_toNat _ (by omega)]
  omega
theorem numO_msg (a : ByteArray) {n : Nat} (hn : n < 1000000) : numO (msgB a n) = n := by
  have e : (msgB a n).data.toList = (109 :: 47 :: (a.data.toList ++ [47])) ++ esix n := by
    unfold msgB
    rw [app_data, app_data, app_data, app_data, show (six n).data.toList = esix (n % 1000000) from rfl, Nat.mod_eq_of_lt hn]
    simp only [List.append_assoc]
    show [109] ++ ([47] ++ (a.data.toList ++ ([47] ++ esix n))) = _
    simp only [List.cons_append, List.nil_append, List.append_assoc]
  have hl : (109 :: 47 :: (a.data.toList ++ [47]) : List UInt8).length = a.size + 3 := by
    simp only [List.length_cons, List.length_append, List.length_nil, Array.length_toList]; rfl
  unfold numO
  rw [e, msgB_size, show a.size + 9 - 6 = a.size + 3 from rfl, ← hl, List.drop_left]
  exact valL_six hn
end Go.Proofs.YtmknhibaoopjjaaGreatDoor
namespace Go.Proofs.YtmknhibaoopjjaaGreatDoor
open Go.RowKit
def posOf (w : World) (b : Nat) : Nat := match w.heap[b]? with | some (.stringIter _ p) => p | _ => 0
theorem posOf_iter (w : World) (s : ByteArray) (p : Nat) : posOf (w.iter s p) w.heap.size = p := by unfold posOf; rw [World.iter_heap]
set_option maxHeartbeats 8000000 in
set_option maxRecDepth 100000 in
theorem first_none (q p since nn : Nat) (V : List (ByteArray × List Vn)) (C : List Ch) (R : List Sp) (name frm lo hi : ByteArray) (L : List Rw) (hlo : (if slt (loB name) frm then frm else loB name) = lo) (hhi : hiB name = hi) (hL : (inC lo hi C).foldl appR (scanV V (hasB lo hi) since) = L)
    (hnd : (V.map (·.1)).Nodup) (hC : C.length ≤ 1000) (hR : R.length ≤ 40) (hVl : V.length ≤ 50000) (hV : ∀ e ∈ V, e.2.length ≤ 100000) (hks : ∀ r ∈ L, r.key.size ≤ 300) (hk : name.size ≤ 200) (h1 : scnN L R lo hi 1 ≠ 0) :
    Does Tryz.prog 128 #[.pointer (some ⟨q, 0, none⟩), .string name, .string frm] [ViewR q p since C R, VerR p nn V]
      (fun _ : Unit => (.tuple #[Ms.z.v, .bool false, errV (scnN L R lo hi 1)], [ViewR q p since C (scnB L R lo hi 1), VerR p nn V])) := by
  have HMS := fun w => messages_any name w (by omega)
  have HSC := vwScan_does q p since nn V C R lo hi 1 L hL hnd hC hR hVl hV hks
  have e1 : scnO L R lo hi 1 = [] := by unfold scnO; rw [if_neg h1]
  rw [e1] at HSC
  rw [hhi] at HMS
  unfold Ms.v Ms.z
  dsimp only [List.length_nil, List.flatMap_nil] at HSC ⊢
  have hl2 : (if Op.bytesLess (loB name).toList frm.toList = true then frm else loB name) = lo := hlo
  generalize loB name = l0 at *
  generalize scnB L R lo hi 1 = R2 at *
  rcases errV_or (scnN L R lo hi 1) with ⟨h0, e⟩ | ⟨M, h0, e⟩
  · exact absurd h0 h1
  · rw [e] at HSC ⊢
    clear e h0 h1 e1 hlo hhi hL hnd hVl hV hks
    intro S W w L0 hO; simp only [CA] at hO
    ((try clear hf); have hf := fa_ hO)
    go_enter Tryz.func128, Tryz.ntmps128
    go_wp2_with (first | (go_at_call 132; (with_reducible apply Calls.mono (HMS _); rintro e8 w8 ⟨rfl, hx8⟩; replace hO := hO.ext hx8; clear hx8; dsimp only; ((try clear hf); have hf := fa_ hO))) | (go_at_call 23; (with_reducible apply Does.use hO (HSC); (focus exact tk_); clear hO; intro x9 w9 hO; dsimp only at hO ⊢; simp only [CA] at hO; ((try clear hf); have hf := fa_ hO); (obtain ⟨za, zc⟩ := x9; dsimp only at hO ⊢; ((try clear hf); have hf := fa_ hO)))) | ((refine sy_ hO ?_); clear hO; intro w9 hO; (try dsimp only [List.set] at hO); ((try clear hf); have hf := fa_ hO)))
    (refine bodyPost_run rfl fun K hK => ?_; simp [results, Tryz.results128, go_sem, hf]; refine hK _ ⟨(), ?_, ?_⟩)
    · rfl
    · (try simp only [CA])
      exact hO.cut sb_
set_option maxHeartbeats 8000000 in
set_option maxRecDepth 100000 in
theorem first_empty (q p since nn : Nat) (V : List (ByteArray × List Vn)) (C : List Ch) (R : List Sp) (name frm lo hi : ByteArray) (hlo : (if slt (loB name) frm then frm else loB name) = lo) (hhi : hiB name = hi) (hL : (inC lo hi C).foldl appR (scanV V (hasB lo hi) since) = [])
    (hnd : (V.map (·.1)).Nodup) (hC : C.length ≤ 1000) (hR : R.length ≤ 40) (hVl : V.length ≤ 50000) (hV : ∀ e ∈ V, e.2.length ≤ 100000) (hk : name.size ≤ 200) (h1 : scnN [] R lo hi 1 = 0) :
    Does Tryz.prog 128 #[.pointer (some ⟨q, 0, none⟩), .string name, .string frm] [ViewR q p since C R, VerR p nn V]
      (fun _ : Unit => (.tuple #[Ms.z.v, .bool false, .nilIface], [ViewR q p since C (scnB [] R lo hi 1), VerR p nn V])) := by
  have HMS := fun w => messages_any name w (by omega)
  have HSC := vwScan_does q p since nn V C R lo hi 1 [] hL hnd hC hR hVl hV (fun _ h => nomatch h)
  have e1 : scnO [] R lo hi 1 = [] := by unfold scnO; rw [if_pos h1]; rfl
  rw [e1, h1] at HSC
  rw [hhi] at HMS
  unfold Ms.v Ms.z
  dsimp only [List.length_nil, List.flatMap_nil] at HSC ⊢
  rw [show errV 0 = .nilIface from rfl] at HSC
  have hl2 : (if Op.bytesLess (loB name).toList frm.toList = true then frm else loB name) = lo := hlo
  generalize loB name = l0 at *
  generalize scnB [] R lo hi 1 = R2 at *
  clear h1 e1 hlo hhi hL hnd hVl hV
  intro S W w L0 hO; simp only [CA] at hO
  ((try clear hf); have hf := fa_ hO)
  go_enter Tryz.func128, Tryz.ntmps128
  go_wp2_with (first | (go_at_call 132; (with_reducible apply Calls.mono (HMS _); rintro e8 w8 ⟨rfl, hx8⟩; replace hO := hO.ext hx8; clear hx8; dsimp only; ((try clear hf); have hf := fa_ hO))) | (go_at_call 23; (with_reducible apply Does.use hO (HSC); (focus exact tk_); clear hO; intro x9 w9 hO; dsimp only at hO ⊢; simp only [CA] at hO; ((try clear hf); have hf := fa_ hO); (obtain ⟨za, zc⟩ := x9; dsimp only at hO ⊢; ((try clear hf); have hf := fa_ hO)))) | ((refine sy_ hO ?_); clear hO; intro w9 hO; (try dsimp only [List.set] at hO); ((try clear hf); have hf := fa_ hO)))
  (refine bodyPost_run rfl fun K hK => ?_; simp [results, Tryz.results128, go_sem, hf]; refine hK _ ⟨(), ?_, ?_⟩)
  · rfl
  · (try simp only [CA])
    exact hO.cut sb_
set_option maxHeartbeats 8000000 in
set_option maxRecDepth 100000 in
theorem first_some (q p since nn n : Nat) (V : List (ByteArray × List Vn)) (C : List Ch) (R : List Sp) (name frm lo hi v : ByteArray) (t : List Rw) (hlo : (if slt (loB name) frm then frm else loB name) = lo) (hhi : hiB name = hi) (hL : (inC lo hi C).foldl appR (scanV V (hasB lo hi) since) = ⟨msgB name n, v⟩ :: t)
    (hnd : (V.map (·.1)).Nodup) (hC : C.length ≤ 1000) (hR : R.length ≤ 40) (hVl : V.length ≤ 50000) (hV : ∀ e ∈ V, e.2.length ≤ 100000) (hk : name.size ≤ 200) (hks : ∀ r ∈ (⟨msgB name n, v⟩ :: t : List Rw), r.key.size ≤ 300) (h1 : scnN (⟨msgB name n, v⟩ :: t) R lo hi 1 = 0) (hn : n < 1000000) (hv : v.size ≤ 100) {φ : World → Prop} (hφ : ∀ w, φ w → LibOk w) :
    Does Tryz.prog 128 #[.pointer (some ⟨q, 0, none⟩), .string name, .string frm] [ViewR q p since C R, VerR p nn V, .imm φ]
      (fun _ : Unit => (.tuple #[(msOf n v).1.v, .bool (decide ((msOf n v).2 = 0)), errV (msOf n v).2], [ViewR q p since C (scnB (⟨msgB name n, v⟩ :: t) R lo hi 1), VerR p nn V, .imm φ])) := by
  have HMS := fun w => messages_any name w (by omega)
  have HMP := fun w h => mpar_any (numP n 6 : Nat) v hv w h
  rw [show msOf (n : Int) v = msOf ((numP n 6 : Nat) : Int) v from rfl]
  generalize msOf ((numP n 6 : Nat) : Int) v = m at *
  obtain ⟨⟨ma, mb, mc, md⟩, m2⟩ := m
  unfold Ms.v at HMP ⊢
  dsimp only at HMP ⊢
  have hm2 : errV m2 = .nilIface ∧ decide (m2 = 0) = true ∨ ∃ M, errV m2 = .iface 127 (.int .i64 M) ∧ decide (m2 = 0) = false := by
    rcases errV_or m2 with ⟨h0, e⟩ | ⟨M, h0, e⟩
    · exact .inl ⟨e, by simp [h0]⟩
    · exact .inr ⟨M, e, by simp [h0]⟩
  generalize errV m2 = ev at *
  generalize decide (m2 = 0) = bv at *
  have hev := Lib.hid hm2
  clear hm2
  have HSC := vwScan_does q p since nn V C R lo hi 1 _ hL hnd hC hR hVl hV hks
  have e1 : scnO (⟨msgB name n, v⟩ :: t) R lo hi 1 = [⟨msgB name n, v⟩] := by unfold scnO; rw [if_pos h1]; rfl
  rw [e1, h1] at HSC
  have hhs : hi.size = name.size + 3 := by
    rw [← hhi]
    unfold hiB
    simp only [ByteArray.size_append]
    show 1 + 1 + (name.size + 1) = _
    omega
  have hks2 : hi.size ≤ 203 ∧ name.size + 3 ≤ hi.size ∧ hi.size ≤ name.size + 3 := by omega
  obtain ⟨hs1, hs2, hs3⟩ := hks2
  replace hhs := Lib.hid hhs
  rw [hhi] at HMS
  dsimp only [List.length_cons, List.length_nil, List.flatMap_cons, List.flatMap_nil] at HSC ⊢
  rw [show errV 0 = .nilIface from rfl] at HSC
  have hl2 : (if Op.bytesLess (loB name).toList frm.toList = true then frm else loB name) = lo := hlo
  generalize loB name = l0 at *
  generalize scnB (⟨msgB name n, v⟩ :: t) R lo hi 1 = R2 at *
  clear h1 e1 hlo hhi hL hnd hVl hV hks
  intro S W w L0 hO; simp only [CA] at hO
  ((try clear hf); have hf := fa_ hO)
  go_enter Tryz.func128, Tryz.ntmps128
  go_upto_region 7 with (first | (go_at_call 132; (with_reducible apply Calls.mono (HMS _); rintro e8 w8 ⟨rfl, hx8⟩; replace hO := hO.ext hx8; clear hx8; dsimp only; ((try clear hf); have hf := fa_ hO))) | (go_at_call 23; (with_reducible apply Does.use hO (HSC); (focus exact tk_); clear hO; intro x9 w9 hO; dsimp only at hO ⊢; simp only [CA] at hO; ((try clear hf); have hf := fa_ hO); (obtain ⟨za, zc⟩ := x9; dsimp only at hO ⊢; ((try clear hf); have hf := fa_ hO)))) | ((refine sy_ hO ?_); clear hO; intro w9 hO; (try dsimp only [List.set] at hO); ((try clear hf); have hf := fa_ hO)))
  have hz := rowV (hO.factOf (r := Row2 80 2 za (0 + 1) zc (List.flatMap rwC [⟨msgB name n, v⟩])) pk_)
  rcases hz with hz | ⟨b, off, rfl, hc⟩
  · cases hz
  · clear hc
    have hat : ∀ j, j < 6 → ∀ h, (msgB name n)[name.size + 3 + j]'h = d8 (numD n j) := fun j hj h => msgB_at name hn hj h
    generalize hkk : msgB name n = k at *
    have hsz : k.size = name.size + 9 := by rw [← hkk]; exact msgB_size name n
    clear hkk
    have hds : (k.extract hi.size k.size).size = 6 := by rw [ByteArray.size_extract]; omega
    have hdd : ∀ j, j < 6 → ∀ h, (k.extract hi.size k.size)[j]'h = d8 (numD n j) := fun j hj h => by
      have := hat j hj (by omega)
      rw [← this, ByteArray.getElem_extract]
      congr 1
      omega
    have hsz2 : hi.size ≤ k.size ∧ k.size ≤ hi.size + 6 ∧ hi.size + 6 ≤ k.size := by omega
    clear hsz
    obtain ⟨hs4, hs5, hs6⟩ := hsz2
    clear hat
    generalize hdk : k.extract hi.size k.size = d at *
    have hds1 := Lib.hid hds
    have hdd1 := Lib.hid hdd
    clear hds hdd
    (refine wp_region_run (fun _ => True) (fun _ _ _ _ => trivial) trivial ((0, 0) :: (0, 1) :: (0, 2) :: (1, 3) :: (0, 4) :: (1, 5) :: (1, 6) :: (0, 7) :: (5, 8) :: []) (by kernel_rfl) (by kernel_rfl) rfl (fun _ _ d _ _ h => by cases d <;> exact h) ?_; intro w9 hx9; replace hO := hO.ext hx9; clear hx9; ((try clear hf); have hf := fa_ hO); (repeat (first | (apply inRun_p _ rfl rfl rfl; focus (intro w8 K8 hK8; (repeat (first | go_skip | go_guarded | go_step)); exact hK8)) | (apply inRun_l _ rfl rfl rfl; focus (intro w8 hx8 K8 hK8; have hO := hO.ext hx8; ((try clear hf); have hf := fa_ hO); (have hz := rowV (hO.factOf (r := Row2 80 2 (some ⟨b, off, none⟩) (0 + 1) zc (List.flatMap rwC [⟨k, v⟩])) pk_); have d0 := hz.get (i := 0) rfl; have d1 := hz.get (i := 1) rfl; simp only [Nat.add_zero] at d0); (repeat (first | go_skip | go_guarded | go_step)); exact hK8)) | (apply inRun_q _ rfl; (focus (intro w8 hx8 K8 hK8; have hO := hO.ext hx8; ((try clear hf); have hf := fa_ hO); (repeat (first | go_skip | go_guarded | go_step | fail)); (first | exact xt_ | exact hK8 _ xt_))); (focus (exact rfl)); intro w8 hx8; replace hO := hO.ext hx8; clear hx8; ((try clear hf); have hf := fa_ hO)))))
    refine inRun_d rfl ?_
    intro K8 hK8
    (repeat (first | go_skip | go_guarded | go_step))
    refine hK8 _ _ trivial ?_
    clear hK8 K8
    refine inRun_nil ?_
    go_wp2
    go_loopw [12, 14] (fun v12 v14 wr => ∃ j : Nat, j ≤ 6 ∧ v12 = .int .i64 (numP n j) ∧ wr = w9.iter d j) (fun v12 v14 wr => 6 - posOf wr w9.heap.size)
    case atStart => exact ⟨0, by omega, rfl, rfl⟩
    case round =>
      obtain ⟨j, hj, rfl, rfl⟩ := hrel
      by_cases hlt : j < 6
      · obtain ⟨n1, n2, n3⟩ := numP_next hn hlt
        have hlt2 : j < d.size := by have := hds1.out; omega
        have hd8 : (d8 (numD n j)).toNat = 48 + numD n j := d8_toNat _ n2
        have hde : d[j].toNat = 48 + numD n j := by rw [hdd1.out j hlt hlt2]; exact hd8
        have hnx := fun ty => run_next_ascii (P := Tryz.prog) w9 d j ty hlt2 (by omega)
        rw [hde] at hnx
        go_wp2
        exact ⟨⟨j + 1, by omega, by rw [n1]; go_num, rfl⟩, by rw [posOf_iter, posOf_iter]; omega⟩
      · obtain rfl : j = 6 := by omega
        have hnx := fun ty => run_next_end (P := Tryz.prog) w9 d 6 ty (by have := hds1.out; omega)
        replace hO := hO.ext ((Ext.refl w9).iter d 6)
        ((try clear hf); have hf := fa_ hO)
        have hz := rowV (hO.factOf (r := Row2 80 2 (some ⟨b, off, none⟩) (0 + 1) zc (List.flatMap rwC [⟨k, v⟩])) pk_)
        have d1 : (w9.iter d 6).cell? ⟨b, off + 1, none⟩ = some (.string v) := hz.get (i := 1) rfl
        clear hz
        go_upto_region 12 with (first | (go_at_call 133; (with_reducible apply Calls.mono (HMP _ (hφ _ (Own.immOf (φ := φ) hO pk_))); rintro e8 w8 ⟨rfl, hx8⟩; replace hO := hO.ext hx8; clear hx8; dsimp only; ((try clear hf); have hf := fa_ hO))) | ((refine sy_ hO ?_); clear hO; intro w9 hO; (try dsimp only [List.set] at hO); ((try clear hf); have hf := fa_ hO)))
        clear d1 hnx
        rcases hev.out with ⟨rfl, rfl⟩ | ⟨M, rfl, rfl⟩
        · (refine wp_region_run (fun _ => True) (fun _ _ _ _ => trivial) trivial ((1, 0) :: (0, 1) :: (0, 2) :: (0, 3) :: (5, 4) :: (0, 5) :: (0, 6) :: []) (by kernel_rfl) (by kernel_rfl) rfl (fun _ _ d _ _ h => by cases d <;> exact h) ?_; intro w9 hx9; replace hO := hO.ext hx9; clear hx9; ((try clear hf); have hf := fa_ hO); (repeat (first | (apply inRun_p _ rfl rfl rfl; focus (intro w8 K8 hK8; (repeat (first | go_skip | go_guarded | go_step)); exact hK8)) | (apply inRun_l _ rfl rfl rfl; focus (intro w8 hx8 K8 hK8; have hO := hO.ext hx8; ((try clear hf); have hf := fa_ hO); skip; (repeat (first | go_skip | go_guarded | go_step)); exact hK8)) | (apply inRun_q _ rfl; (focus (intro w8 hx8 K8 hK8; have hO := hO.ext hx8; ((try clear hf); have hf := fa_ hO); (repeat (first | go_skip | go_guarded | go_step | fail)); (first | exact xt_ | exact hK8 _ xt_))); (focus (exact rfl)); intro w8 hx8; replace hO := hO.ext hx8; clear hx8; ((try clear hf); have hf := fa_ hO)))))
          (refine inRun_d rfl ?_; intro K8 hK8; (repeat (first | go_skip | go_guarded | go_step)); refine hK8 _ _ trivial ?_; clear hK8 K8; with_reducible apply inRun_set_own; (focus (exact st_ hO)); clear hO; intro w9 hO; (try dsimp only [List.set] at hO); ((try clear hf); have hf := fa_ hO))
          (repeat (first | (apply inRun_p _ rfl rfl rfl; focus (intro w8 K8 hK8; (repeat (first | go_skip | go_guarded | go_step)); exact hK8)) | (apply inRun_l _ rfl rfl rfl; focus (intro w8 hx8 K8 hK8; have hO := hO.ext hx8; ((try clear hf); have hf := fa_ hO); skip; (repeat (first | go_skip | go_guarded | go_step)); exact hK8)) | (apply inRun_q _ rfl; (focus (intro w8 hx8 K8 hK8; have hO := hO.ext hx8; ((try clear hf); have hf := fa_ hO); (repeat (first | go_skip | go_guarded | go_step | fail)); (first | exact xt_ | exact hK8 _ xt_))); (focus (exact rfl)); intro w8 hx8; replace hO := hO.ext hx8; clear hx8; ((try clear hf); have hf := fa_ hO))))
          refine inRun_nil ?_
          go_wp2
          (refine bodyPost_run rfl fun K hK => ?_; simp [results, Tryz.results128, go_sem, hf]; refine hK _ ⟨(), ?_, ?_⟩)
          · rfl
          · (try simp only [CA])
            exact hO.cut sb_
        · (refine wp_region_run (fun _ => True) (fun _ _ _ _ => trivial) trivial ((1, 0) :: (0, 1) :: (0, 2) :: (0, 3) :: (5, 4) :: (0, 5) :: (0, 6) :: []) (by kernel_rfl) (by kernel_rfl) rfl (fun _ _ d _ _ h => by cases d <;> exact h) ?_; intro w9 hx9; replace hO := hO.ext hx9; clear hx9; ((try clear hf); have hf := fa_ hO); (repeat (first | (apply inRun_p _ rfl rfl rfl; focus (intro w8 K8 hK8; (repeat (first | go_skip | go_guarded | go_step)); exact hK8)) | (apply inRun_l _ rfl rfl rfl; focus (intro w8 hx8 K8 hK8; have hO := hO.ext hx8; ((try clear hf); have hf := fa_ hO); skip; (repeat (first | go_skip | go_guarded | go_step)); exact hK8)) | (apply inRun_q _ rfl; (focus (intro w8 hx8 K8 hK8; have hO := hO.ext hx8; ((try clear hf); have hf := fa_ hO); (repeat (first | go_skip | go_guarded | go_step | fail)); (first | exact xt_ | exact hK8 _ xt_))); (focus (exact rfl)); intro w8 hx8; replace hO := hO.ext hx8; clear hx8; ((try clear hf); have hf := fa_ hO)))))
          (refine inRun_d rfl ?_; intro K8 hK8; (repeat (first | go_skip | go_guarded | go_step)); refine hK8 _ _ trivial ?_; clear hK8 K8; with_reducible apply inRun_set_own; (focus (exact st_ hO)); clear hO; intro w9 hO; (try dsimp only [List.set] at hO); ((try clear hf); have hf := fa_ hO))
          (repeat (first | (apply inRun_p _ rfl rfl rfl; focus (intro w8 K8 hK8; (repeat (first | go_skip | go_guarded | go_step)); exact hK8)) | (apply inRun_l _ rfl rfl rfl; focus (intro w8 hx8 K8 hK8; have hO := hO.ext hx8; ((try clear hf); have hf := fa_ hO); skip; (repeat (first | go_skip | go_guarded | go_step)); exact hK8)) | (apply inRun_q _ rfl; (focus (intro w8 hx8 K8 hK8; have hO := hO.ext hx8; ((try clear hf); have hf := fa_ hO); (repeat (first | go_skip | go_guarded | go_step | fail)); (first | exact xt_ | exact hK8 _ xt_))); (focus (exact rfl)); intro w8 hx8; replace hO := hO.ext hx8; clear hx8; ((try clear hf); have hf := fa_ hO))))
          refine inRun_nil ?_
          go_wp2
          (refine bodyPost_run rfl fun K hK => ?_; simp [results, Tryz.results128, go_sem, hf]; refine hK _ ⟨(), ?_, ?_⟩)
          · rfl
          · (try simp only [CA])
            exact hO.cut sb_
end Go.Proofs.YtmknhibaoopjjaaGreatDoor
namespace Go.Proofs.YtmknhibaoopjjaaGreatDoor
open Go.RowKit
theorem chN_good {c : Ch} (h : chN c = 0) : KeyOk c.key ∧ c.val.size ≤ 40 := by
  unfold chN at h
  split at h
  · rename_i h1
    refine ⟨h1, ?_⟩
    split at h
    · cases h
    · split at h
      · cases h
      · omega
  · cases h
/-- What is known of changes and reads between two acts. -/
structure QInv (C : List Ch) (R : List Sp) : Prop where
  ups : Ups C
  c12 : C.length ≤ 12
  r40 : R.length ≤ 40
  good : ∀ c ∈ C, chN c = 0
/-- What is known of rows. -/
structure QRows (rows : List Rw) : Prop where
  ups : RUps rows
  ok : ∀ r ∈ rows, KeyOk r.key ∧ r.val.size ≤ 40
  len : rows.length ≤ 1000
theorem KeyOk.size_le {k : ByteArray} (h : KeyOk k) : k.size ≤ 60 := by
  rcases h with ⟨a, ha, rfl | rfl⟩ | ⟨q, n, hq, hn, rfl⟩
  · have := ha.2.1
    show (tabB a).size ≤ 60
    have e : (tabB a).size = 2 + a.size := by
      unfold tabB
      rw [ByteArray.size_append, ByteArray.size_append]
      rfl
    omega
  · have := ha.2.1
    show (queB a).size ≤ 60
    rw [queB_size]; omega
  · have := hq.2.1
    show (msgB q n).size ≤ 60
    rw [msgB_size]; omega
theorem QInv.val {C : List Ch} {R : List Sp} (h : QInv C R) : ∀ c ∈ C, c.val.size ≤ 100 := fun c hc => by have := (chN_good (h.good c hc)).2; omega
theorem QInv.put {C : List Ch} {R : List Sp} (h : QInv C R) (c : Ch) : QInv (putL C c) R := by
  have hk := putL_keep c h.ups h.c12
  refine ⟨hk.1, hk.2, h.r40, fun x hx => ?_⟩
  unfold putL at hx
  split at hx
  · rename_i h1
    rcases mem_put hx with rfl | hx
    · unfold putN at h1
      split at h1
      · rename_i h2; exact absurd h1 h2
      · rename_i h2; exact Classical.not_not.1 h2
    · exact h.good x hx
  · exact h.good x hx
theorem QInv.reads {C : List Ch} {R R' : List Sp} (h : QInv C R) (hR : R'.length ≤ 40) : QInv C R' := ⟨h.ups, h.c12, hR, h.good⟩
theorem QInv.putq {C : List Ch} {R : List Sp} (h : QInv C R) (name : ByteArray) (q : Qu) : QInv (putqL C name q) R := by
  unfold putqL
  split
  · exact h
  · exact h.put _
theorem QInv.set {C : List Ch} {R : List Sp} (h : QInv C R) (name : ByteArray) (m : Ms) : QInv (setL C name m) R := by
  unfold setL
  split
  · exact h
  · exact h.put _
theorem QInv.send {C : List Ch} {R : List Sp} (h : QInv C R) (name : ByteArray) (u : Qu) (body : ByteArray) (til : Int) : QInv (sendA C name u body til).2.2 R := by
  unfold sendA
  split
  · exact h
  · split
    · exact h
    · split
      · exact h
      · exact (h.put _).putq _ _
theorem QInv.find {C : List Ch} {R : List Sp} (h : QInv C R) (name : ByteArray) : QInv C (findR C R name) := h.reads (findR_len h.r40)
theorem QInv.bury {C : List Ch} {R : List Sp} (h : QInv C R) (B : ByteArray → ByteArray × Bool) (name : ByteArray) (u : Qu) (m : Ms) : QInv (buryA B C R name u m).2.1 (buryA B C R name u m).2.2 := by
  unfold buryA
  split
  · exact h
  · split
    · exact h.put _
    · split
      · exact (h.put _).find _
      · exact ((h.put _).find _).send _ _ _ _
theorem QInv.scan {C : List Ch} {R : List Sp} (h : QInv C R) (L : List Rw) (lo hi : ByteArray) (most : Int) : QInv C (scnB L R lo hi most) := by
  refine h.reads ?_
  unfold scnB
  split
  · exact h.r40
  · exact noteR_len _ h.r40
theorem apps_mem {P : Rw → Prop} : ∀ {C : List Ch} {l : List Rw}, (∀ r ∈ l, P r) → (∀ c ∈ C, P ⟨c.key, c.val⟩) → ∀ r ∈ C.foldl appR l, P r
  | [], _, h, _ => h
  | c :: C, l, h, hC => apps_mem (C := C) (l := appR l c) (fun r hr => by
      rcases mem_appF.1 hr with ⟨h1, _⟩ | ⟨_, h1⟩
      · exact h r h1
      · rw [h1]; exact hC c (List.mem_cons_self ..)) fun d hd => hC d (List.mem_cons_of_mem _ hd)
theorem seen_ok {rows : List Rw} {C : List Ch} {R : List Sp} (hr : QRows rows) (h : QInv C R) : ∀ r ∈ C.foldl appR rows, KeyOk r.key ∧ r.val.size ≤ 40 :=
  apps_mem hr.ok fun c hc => chN_good (h.good c hc)
theorem seen_keys {rows : List Rw} {C : List Ch} {R : List Sp} (hr : QRows rows) (h : QInv C R) (lo hi : ByteArray) : ∀ r ∈ inR lo hi (C.foldl appR rows), r.key.size ≤ 300 := fun r hm => by
  have := (seen_ok hr h r (List.mem_filter.1 hm).1).1.size_le; omega
theorem has_span {a k : ByteArray} : hasB (loB a) (hiB a) k = true ↔ ∃ r, k.data.toList = 109 :: 47 :: (a.data.toList ++ 47 :: r) := has_msgs a k
theorem span_msg {name k : ByteArray} (hn : NameOk name) (hk : KeyOk k) (h : hasB (loB name) (hiB name) k = true) : ∃ n, n < 1000000 ∧ k = msgB name n := by
  have h := has_span.1 h
  rcases hk with ⟨a, ha, rfl | rfl⟩ | ⟨q, n, hq, hn2, rfl⟩
  · exact absurd h (has_tab name a)
  · exact absurd h (has_que name a)
  · have := (has_msg hn hq n).1 h
    subst this
    exact ⟨n, hn2, rfl⟩
theorem hasB_up {lo lo0 hi k : ByteArray} (h : hasB lo hi k = true) (h0 : slt lo lo0 = false) : hasB lo0 hi k = true := by
  unfold hasB at *
  simp only [Bool.and_eq_true, Bool.not_eq_true'] at *
  refine ⟨?_, h.2⟩
  cases h1 : slt k lo0 with
  | false => rfl
  | true => have := slt_of_slt_of_not h1 h0; rw [h.1] at this; cases this
theorem msg_lo {name : ByteArray} (hn : NameOk name) (n : Nat) : slt (msgB name n) (loB name) = false := by
  have h := has_span.2 ((has_msg hn hn n).2 rfl)
  unfold hasB at h
  simp only [Bool.and_eq_true, Bool.not_eq_true'] at h
  exact h.1
theorem lo_msg {name : ByteArray} (hn : NameOk name) (n : Nat) : slt (loB name) (msgB name n ++ nul) = true := slt_of_not_of_slt (msg_lo hn n) (slt_nul _)
/-- Where a look begins: at the span's beginning, or behind a message's row. -/
def LoOk (name : ByteArray) (k : Nat) (lo : ByteArray) : Prop := (k = 0 ∧ lo = loB name) ∨ ∃ n, n < 1000000 ∧ k = n + 1 ∧ lo = msgB name n ++ nul
theorem LoOk.le {name lo : ByteArray} {k : Nat} (hn : NameOk name) (h : LoOk name k lo) : slt lo (loB name) = false := by
  rcases h with ⟨_, rfl⟩ | ⟨n, _, _, rfl⟩
  · exact slt_irrefl _
  · exact slt_asymm (lo_msg hn n)
theorem LoOk.num {name lo hi : ByteArray} {k m : Nat} (h : LoOk name k lo) (hm : m < 1000000) (hh : hasB lo hi (msgB name m) = true) : k ≤ m := by
  rcases h with ⟨rfl, _⟩ | ⟨n, hn, rfl, rfl⟩
  · exact Nat.zero_le _
  · unfold hasB at hh
    simp only [Bool.and_eq_true, Bool.not_eq_true'] at hh
    have h1 := hh.1
    rw [slt_nul_iff, slt_msg name n m hn hm] at h1
    simp only [Bool.not_eq_false', decide_eq_true_eq] at h1
    omega
theorem recv_first {rows : List Rw} {C : List Ch} {R : List Sp} {name lo : ByteArray} {k : Nat} {r : Rw} {t : List Rw} (hr : QRows rows) (h : QInv C R) (hn : NameOk name) (hl : LoOk name k lo) (he : inR lo (hiB name) (C.foldl appR rows) = r :: t) :
    ∃ n, k ≤ n ∧ n < 1000000 ∧ r = ⟨msgB name n, r.val⟩ ∧ r.val.size ≤ 40 := by
  have hm : r ∈ inR lo (hiB name) (C.foldl appR rows) := by rw [he]; exact List.mem_cons_self ..
  obtain ⟨h1, h2⟩ := List.mem_filter.1 hm
  obtain ⟨h3, h4⟩ := seen_ok hr h r h1
  obtain ⟨n, hn1, hn2⟩ := span_msg hn h3 (hasB_up h2 (hl.le hn))
  refine ⟨n, ?_, hn1, ?_, h4⟩
  · rw [hn2] at h2; exact hl.num hn1 h2
  · obtain ⟨a, b⟩ := r
    dsimp only at hn2 ⊢
    rw [hn2]
def Ms.more (m : Ms) (t : Int) : Ms := ⟨m.num, m.tries + 1, t, m.body⟩
/-- What is received: from a place on. -/
inductive Recv (rows : List Rw) (name : ByteArray) (u : Qu) (now long : Int) : List Ch → List Sp → ByteArray → Ms × Nat × List Ch × List Sp → Prop
  | bad {C R lo res L} (hL : inR lo (hiB name) (C.foldl appR rows) = L) (h1 : scnN L R lo (hiB name) 1 ≠ 0) (e : res = (Ms.z, scnN L R lo (hiB name) 1, C, scnB L R lo (hiB name) 1)) : Recv rows name u now long C R lo res
  | empty {C R lo res} (hL : inR lo (hiB name) (C.foldl appR rows) = []) (h1 : scnN [] R lo (hiB name) 1 = 0) (e : res = (Ms.z, 12, C, scnB [] R lo (hiB name) 1)) : Recv rows name u now long C R lo res
  | text {C R lo res n v t} (hL : inR lo (hiB name) (C.foldl appR rows) = ⟨msgB name n, v⟩ :: t) (h1 : scnN (⟨msgB name n, v⟩ :: t) R lo (hiB name) 1 = 0) (hn : n < 1000000) (hv : v.size ≤ 40)
      (h2 : (msOf n v).2 ≠ 0) (e : res = (Ms.z, (msOf n v).2, C, scnB (⟨msgB name n, v⟩ :: t) R lo (hiB name) 1)) : Recv rows name u now long C R lo res
  | skip {C R lo res n v t} (hL : inR lo (hiB name) (C.foldl appR rows) = ⟨msgB name n, v⟩ :: t) (h1 : scnN (⟨msgB name n, v⟩ :: t) R lo (hiB name) 1 = 0) (hn : n < 1000000) (hv : v.size ≤ 40)
      (h2 : (msOf n v).2 = 0) (h3 : now < (msOf n v).1.until_) (h : Recv rows name u now long C (scnB (⟨msgB name n, v⟩ :: t) R lo (hiB name) 1) (msgB name n ++ nul) res) : Recv rows name u now long C R lo res
  | lost {C R lo res n v t} (hL : inR lo (hiB name) (C.foldl appR rows) = ⟨msgB name n, v⟩ :: t) (h1 : scnN (⟨msgB name n, v⟩ :: t) R lo (hiB name) 1 = 0) (hn : n < 1000000) (hv : v.size ≤ 40)
      (h2 : (msOf n v).2 = 0) (h3 : ¬ now < (msOf n v).1.until_) (h4 : u.tries ≤ (msOf n v).1.tries) (h5 : (buryA (valR rows) C (scnB (⟨msgB name n, v⟩ :: t) R lo (hiB name) 1) name u (msOf n v).1).1 ≠ 0)
      (e : res = (Ms.z, buryA (valR rows) C (scnB (⟨msgB name n, v⟩ :: t) R lo (hiB name) 1) name u (msOf n v).1)) : Recv rows name u now long C R lo res
  | bury {C R lo res n v t} (hL : inR lo (hiB name) (C.foldl appR rows) = ⟨msgB name n, v⟩ :: t) (h1 : scnN (⟨msgB name n, v⟩ :: t) R lo (hiB name) 1 = 0) (hn : n < 1000000) (hv : v.size ≤ 40)
      (h2 : (msOf n v).2 = 0) (h3 : ¬ now < (msOf n v).1.until_) (h4 : u.tries ≤ (msOf n v).1.tries) (h5 : (buryA (valR rows) C (scnB (⟨msgB name n, v⟩ :: t) R lo (hiB name) 1) name u (msOf n v).1).1 = 0)
      (h : Recv rows name u now long (buryA (valR rows) C (scnB (⟨msgB name n, v⟩ :: t) R lo (hiB name) 1) name u (msOf n v).1).2.1 (buryA (valR rows) C (scnB (⟨msgB name n, v⟩ :: t) R lo (hiB name) 1) name u (msOf n v).1).2.2 (msgB name n ++ nul) res) : Recv rows name u now long C R lo res
  | take {C R lo res n v t} (hL : inR lo (hiB name) (C.foldl appR rows) = ⟨msgB name n, v⟩ :: t) (h1 : scnN (⟨msgB name n, v⟩ :: t) R lo (hiB name) 1 = 0) (hn : n < 1000000) (hv : v.size ≤ 40)
      (h2 : (msOf n v).2 = 0) (h3 : ¬ now < (msOf n v).1.until_) (h4 : ¬ u.tries ≤ (msOf n v).1.tries)
      (e : res = ((msOf n v).1.more (now + long), setN C name ((msOf n v).1.more (now + long)), setL C name ((msOf n v).1.more (now + long)), scnB (⟨msgB name n, v⟩ :: t) R lo (hiB name) 1)) : Recv rows name u now long C R lo res
/-- Something is always told: the number rises. -/
theorem recv_ex {rows : List Rw} {name : ByteArray} (u : Qu) (now long : Int) (hr : QRows rows) (hn : NameOk name) : ∀ (f : Nat) {k : Nat} {C : List Ch} {R : List Sp} {lo : ByteArray}, 1000000 ≤ f + k → QInv C R → LoOk name k lo →
    ∃ res, Recv rows name u now long C R lo res ∧ QInv res.2.2.1 res.2.2.2 := by
  intro f
  induction f with
  | zero =>
    intro k C R lo hf h hl
    cases hL : inR lo (hiB name) (C.foldl appR rows) with
    | nil =>
      by_cases h1 : scnN [] R lo (hiB name) 1 = 0
      · exact ⟨_, .empty hL h1 rfl, h.scan [] lo (hiB name) 1⟩
      · exact ⟨_, .bad hL h1 rfl, h.scan [] lo (hiB name) 1⟩
    | cons r t =>
      obtain ⟨n, h1, h2, _⟩ := recv_first hr h hn hl hL
      omega
  | succ f ih =>
    intro k C R lo hf h hl
    by_cases h1 : scnN (inR lo (hiB name) (C.foldl appR rows)) R lo (hiB name) 1 = 0
    · cases hL : inR lo (hiB name) (C.foldl appR rows) with
      | nil => rw [hL] at h1; exact ⟨_, .empty hL h1 rfl, h.scan [] lo (hiB name) 1⟩
      | cons r t =>
        obtain ⟨n, hn1, hn2, hn3, hn4⟩ := recv_first hr h hn hl hL
        rw [hL] at h1
        generalize r.val = v at *
        subst hn3
        have hl2 : LoOk name (n + 1) (msgB name n ++ nul) := .inr ⟨n, hn2, rfl, rfl⟩
        by_cases h2 : (msOf n v).2 = 0
        · by_cases h3 : now < (msOf n v).1.until_
          · obtain ⟨res, h5, h6⟩ := ih (k := n + 1) (by omega) (h.scan (⟨msgB name n, v⟩ :: t) lo (hiB name) 1) hl2
            exact ⟨res, .skip hL h1 hn2 hn4 h2 h3 h5, h6⟩
          · by_cases h4 : u.tries ≤ (msOf n v).1.tries
            · by_cases h5 : (buryA (valR rows) C (scnB (⟨msgB name n, v⟩ :: t) R lo (hiB name) 1) name u (msOf n v).1).1 = 0
              · obtain ⟨res, h6, h7⟩ := ih (k := n + 1) (by omega) ((h.scan (⟨msgB name n, v⟩ :: t) lo (hiB name) 1).bury (valR rows) name u (msOf n v).1) hl2
                exact ⟨res, .bury hL h1 hn2 hn4 h2 h3 h4 h5 h6, h7⟩
              · exact ⟨_, .lost hL h1 hn2 hn4 h2 h3 h4 h5 rfl, (h.scan (⟨msgB name n, v⟩ :: t) lo (hiB name) 1).bury (valR rows) name u (msOf n v).1⟩
            · exact ⟨_, .take hL h1 hn2 hn4 h2 h3 h4 rfl, (h.scan (⟨msgB name n, v⟩ :: t) lo (hiB name) 1).set name ((msOf n v).1.more (now + long))⟩
        · exact ⟨_, .text hL h1 hn2 hn4 h2 rfl, h.scan (⟨msgB name n, v⟩ :: t) lo (hiB name) 1⟩
    · exact ⟨_, .bad rfl h1 rfl, h.scan (inR lo (hiB name) (C.foldl appR rows)) lo (hiB name) 1⟩
end Go.Proofs.YtmknhibaoopjjaaGreatDoor
namespace Go.Proofs.YtmknhibaoopjjaaGreatDoor
open Go.RowKit
def msC (m : Ms) : List Value := [.int .i64 m.num, .int .i64 m.tries, .int .i64 m.until_, .string m.body]
theorem ms_cells {w : World} {l : List Ms} {b off i : Nat} (h : ValsAt w (some ⟨b, off, none⟩) (l.flatMap msC)) (hi : i < l.length) :
    w.cell? ⟨b, off + i * 4, none⟩ = some (.int .i64 l[i].num) ∧ w.cell? ⟨b, off + i * 4 + 1, none⟩ = some (.int .i64 l[i].tries) ∧ w.cell? ⟨b, off + i * 4 + 2, none⟩ = some (.int .i64 l[i].until_) ∧ w.cell? ⟨b, off + i * 4 + 3, none⟩ = some (.string l[i].body) := by
  have g0 := flat_get msC 4 (fun _ => rfl) l i hi 0 (by omega)
  have g1 := flat_get msC 4 (fun _ => rfl) l i hi 1 (by omega)
  have g2 := flat_get msC 4 (fun _ => rfl) l i hi 2 (by omega)
  have g3 := flat_get msC 4 (fun _ => rfl) l i hi 3 (by omega)
  exact ⟨ValsAt.get h g0, by rw [Nat.add_assoc]; exact ValsAt.get h g1, by rw [Nat.add_assoc]; exact ValsAt.get h g2, by rw [Nat.add_assoc]; exact ValsAt.get h g3⟩
theorem ms_some {w : World} {l : List Ms} {a : Option Addr} {i : Nat} (h : ValsAt w a (l.flatMap msC)) (hi : i < l.length) : ∃ b off, a = some ⟨b, off, none⟩ :=
  ValsAt.some h (flat_get msC 4 (fun _ => rfl) l i hi 0 (by omega))
theorem ms_one (O : List Ms) (x : Ms) : (O ++ [x]).flatMap msC = O.flatMap msC ++ [.int .i64 x.num, .int .i64 x.tries, .int .i64 x.until_, .string x.body] := by rw [List.flatMap_append]; rfl
theorem Tryz.infoMs : (Tryz.prog.info? 104).map (fun i => (i.zero, i.size, i.bytes)) = some (some (.agg #[.int .i64 0, .int .i64 0, .int .i64 0, .string ⟨#[]⟩]), 4, 40) := by kernel_rfl
set_option maxHeartbeats 1000000 in
set_option maxRecDepth 100000 in
theorem sameMs_any (a b : Option Addr) (n c d : Nat) (l : List Ms) (w : World) (hl : l.length = n) (hn : n ≤ 100000) (hA : ValsAt w a (l.flatMap msC)) (hB : ValsAt w b (l.flatMap msC)) :
    Calls Tryz.prog 118 #[.slice a n c, .slice b n d] w fun e w' => e = .returned (.bool true) ∧ Ext w w' := by
  have hO : Own (fun _ => False) w w [.imm fun w => ValsAt w a (l.flatMap msC) ∧ ValsAt w b (l.flatMap msC)] := Own.base w _ fun _ hw' => ⟨vals_up hA hw', vals_up hB hw'⟩
  ((try clear hf); have hf := fa_ hO)
  go_enter Tryz.func118, Tryz.ntmps118
  go_wp2_with (first | ((refine sy_ hO ?_); clear hO; intro w9 hO; (try dsimp only [List.set] at hO); ((try clear hf); have hf := fa_ hO)))
  go_loopw [5] (fun v wr => ∃ k : Nat, v = .int .i64 k ∧ k ≤ n ∧ Own (fun _ => False) w wr [.imm fun w => ValsAt w a (l.flatMap msC) ∧ ValsAt w b (l.flatMap msC)]) (fun v _ => n - (intOf v).toNat)
  case atStart => exact ⟨0, rfl, by omega, hO⟩
  case round =>
    clear hO
    obtain ⟨k, rfl, hk, hO⟩ := hrel
    rename World => w0
    ((try clear hf); have hf := fa_ hO)
    by_cases hlt : k < n
    · have hk2 : k < l.length := by omega
      obtain ⟨b1, o1, rfl⟩ := ms_some (a := a) hf.1 hk2
      obtain ⟨b2, o2, rfl⟩ := ms_some (a := b) hf.2 hk2
      have hca := fun w (h : ValsAt w (some ⟨b1, o1, none⟩) (l.flatMap msC) ∧ ValsAt w (some ⟨b2, o2, none⟩) (l.flatMap msC)) => ms_cells h.1 hk2
      have hcb := fun w (h : ValsAt w (some ⟨b1, o1, none⟩) (l.flatMap msC) ∧ ValsAt w (some ⟨b2, o2, none⟩) (l.flatMap msC)) => ms_cells h.2 hk2
      generalize l[k] = x at *
      obtain ⟨x0, x1, x2, x3⟩ := x
      dsimp only at hca hcb
      go_wp2_with (first | ((refine sy_ hO ?_); clear hO; intro w9 hO; (try dsimp only [List.set] at hO); ((try clear hf); have hf := fa_ hO)))
      (refine wp_region_run (fun _ => True) (fun _ _ _ _ => trivial) trivial ((0, 0) :: (0, 1) :: (0, 2) :: (1, 3) :: (0, 4) :: (0, 5) :: (0, 6) :: (1, 7) :: (0, 8) :: []) (by kernel_rfl) (by kernel_rfl) rfl (fun _ _ d _ _ h => by cases d <;> exact h) ?_; intro w9 hx9; replace hO := hO.ext hx9; clear hx9; ((try clear hf); have hf := fa_ hO); (repeat (first | (apply inRun_p _ rfl rfl rfl; focus (intro w8 K8 hK8; (repeat (first | go_skip | go_guarded | go_step)); exact hK8)) | (apply inRun_l _ rfl rfl rfl; focus (intro w8 hx8 K8 hK8; have hO := hO.ext hx8; ((try clear hf); have hf := fa_ hO); obtain ⟨c0, c1, c2, c3⟩ := hca _ hf; obtain ⟨d0, d1, d2, d3⟩ := hcb _ hf; (repeat (first | go_skip | go_guarded | go_step)); exact hK8)) | (apply inRun_q _ rfl; (focus (intro w8 hx8 K8 hK8; have hO := hO.ext hx8; ((try clear hf); have hf := fa_ hO); (repeat (first | go_skip | go_guarded | go_step | fail)); (first | exact xt_ | exact hK8 _ xt_))); (focus (exact rfl)); intro w8 hx8; replace hO := hO.ext hx8; clear hx8; ((try clear hf); have hf := fa_ hO)))))
      refine inRun_nil ?_
      go_wp2_with (first | ((refine sy_ hO ?_); clear hO; intro w9 hO; (try dsimp only [List.set] at hO); ((try clear hf); have hf := fa_ hO)))
      exact ⟨⟨k + 1, by go_num, by omega, hO⟩, by simp [intOf]; omega⟩
    · go_wp2_with (first | ((refine sy_ hO ?_); clear hO; intro w9 hO; (try dsimp only [List.set] at hO); ((try clear hf); have hf := fa_ hO)))
      go_ret
      exact ⟨rfl, hO.toExt⟩
/-- A message as it is read of its row. -/
noncomputable def msR (r : Rw) : Ms × Nat := msOf (numO r.key) r.val
open Classical in
noncomputable def msgsN (L : List Rw) : Nat := if ∀ r ∈ L, (msR r).2 = 0 then 0 else 4
noncomputable def msgsA (rows : List Rw) (C : List Ch) (R : List Sp) (name : ByteArray) : List Ms × Nat × List Sp :=
  if (findN (valR rows (queB name)) C R name).2 ≠ 0 then ([], (findN (valR rows (queB name)) C R name).2, findR C R name)
  else if scnN (inR (loB name) (hiB name) (C.foldl appR rows)) (findR C R name) (loB name) (hiB name) 53 ≠ 0 then ([], scnN (inR (loB name) (hiB name) (C.foldl appR rows)) (findR C R name) (loB name) (hiB name) 53, scnB (inR (loB name) (hiB name) (C.foldl appR rows)) (findR C R name) (loB name) (hiB name) 53)
  else if msgsN ((inR (loB name) (hiB name) (C.foldl appR rows)).take 53) ≠ 0 then ([], 4, scnB (inR (loB name) (hiB name) (C.foldl appR rows)) (findR C R name) (loB name) (hiB name) 53)
  else (((inR (loB name) (hiB name) (C.foldl appR rows)).take 53).map (fun r => (msR r).1), 0, scnB (inR (loB name) (hiB name) (C.foldl appR rows)) (findR C R name) (loB name) (hiB name) 53)
theorem msR_or (r : Rw) : (msR r).2 = 0 ∨ (msR r).2 = 4 ∧ (msR r).1 = Ms.z := by
  rcases msOf_cases (numO r.key) r.val with ⟨m, hm, _⟩ | ⟨hm, _⟩
  · left; unfold msR; rw [hm]
  · right; unfold msR; rw [hm]; exact ⟨rfl, rfl⟩
theorem msgsN_bad {L : List Rw} {r : Rw} (h : r ∈ L) (h2 : (msR r).2 = 4) : msgsN L = 4 := by
  unfold msgsN
  rw [if_neg (fun h3 => by rw [h3 r h] at h2; cases h2)]
theorem msgsN_ok {L : List Rw} (h : ∀ r ∈ L, (msR r).2 = 0) : msgsN L = 0 := by unfold msgsN; rw [if_pos h]
/-- Rows of a queue's messages. -/
def MsgRows (name : ByteArray) (L : List Rw) : Prop := ∀ r ∈ L, ∃ n, n < 1000000 ∧ r.key = msgB name n ∧ r.val.size ≤ 40
theorem msgRows {rows : List Rw} {C : List Ch} {R : List Sp} {name : ByteArray} (hr : QRows rows) (h : QInv C R) (hn : NameOk name) : MsgRows name (inR (loB name) (hiB name) (C.foldl appR rows)) := fun r hm => by
  obtain ⟨h1, h2⟩ := List.mem_filter.1 hm
  obtain ⟨h3, h4⟩ := seen_ok hr h r h1
  obtain ⟨n, hn1, hn2⟩ := span_msg hn h3 h2
  exact ⟨n, hn1, hn2, h4⟩
theorem MsgRows.take {name : ByteArray} {L : List Rw} (h : MsgRows name L) (k : Nat) : MsgRows name (L.take k) := fun r hr => h r (List.mem_of_mem_take hr)
/-- What is seen, at a deed, of versions. -/
structure Seen (V : List (ByteArray × List Vn)) (since : Nat) (rows : List Rw) : Prop where
  rd : ∀ k, readV V k since = valR rows k
  sc : ∀ f, scanV V f since = rows.filter fun r => f r.key
  nd : (V.map (·.1)).Nodup
  vl : V.length ≤ 50000
  v1 : ∀ e ∈ V, e.2.length ≤ 100000
  qr : QRows rows
theorem Seen.scan {V : List (ByteArray × List Vn)} {since : Nat} {rows : List Rw} (h : Seen V since rows) (C : List Ch) (lo hi : ByteArray) : (inC lo hi C).foldl appR (scanV V (hasB lo hi) since) = inR lo hi (C.foldl appR rows) := by
  rw [inR_apps lo hi C h.qr.ups, h.sc]; rfl
theorem valR_val {rows : List Rw} (h : ∀ r ∈ rows, r.val.size ≤ 40) (k : ByteArray) : (valR rows k).1.size ≤ 100 := by
  unfold valR
  cases hf : rows.find? (fun r => decide (r.key = k)) with
  | none => exact Nat.zero_le _
  | some r => have := h r (List.mem_of_find?_eq_some hf); dsimp only; omega
theorem Seen.val {V : List (ByteArray × List Vn)} {since : Nat} {rows : List Rw} (h : Seen V since rows) : ∀ k, (valR rows k).1.size ≤ 100 := valR_val fun r hr => (h.qr.ok r hr).2
theorem Seen.v6 {V : List (ByteArray × List Vn)} {since : Nat} {rows : List Rw} (h : Seen V since rows) : ∀ e ∈ V, e.2.length ≤ 1000000 := fun e he => Nat.le_trans (h.v1 e he) (by omega)
theorem Seen.new {rows : List Rw} (h : QRows rows) : Seen (newV rows) 0 rows := by
  refine ⟨fun k => newV_read rows k (by omega), fun f => ?_, newV_nodup h.ups, by rw [newV_length]; have := h.len; omega, newV_len1 rows, h⟩
  exact (Past.new h.ups).scan (m := 0) (by omega) (j := 0) (by simp) (by simp) f
end Go.Proofs.YtmknhibaoopjjaaGreatDoor
namespace Go.Proofs.YtmknhibaoopjjaaGreatDoor
open Go.RowKit
def strOf : Value → ByteArray
  | .string s => s
  | _ => ⟨#[]⟩
/-- Where a look goes on: nowhere yet, or behind a message. -/
def FrmOk (name frm : ByteArray) (k : Nat) : Prop := (k = 0 ∧ frm = ⟨#[]⟩) ∨ ∃ n, n < 1000000 ∧ k = n + 1 ∧ frm = msgB name n ++ nul
open Classical in
noncomputable def measF (name frm : ByteArray) : Nat := if h : ∃ n, n < 1000000 ∧ frm = msgB name n ++ nul then 1000000 - h.choose else 1000001
theorem msg_nul_inj {name : ByteArray} {n m : Nat} (hn : n < 1000000) (hm : m < 1000000) (h : msgB name n ++ nul = msgB name m ++ nul) : n = m := by
  have h1 := slt_nul_iff (msgB name m) (msgB name n)
  rw [← h, slt_nul, slt_msg name m n hm hn] at h1
  have h2 := slt_nul_iff (msgB name n) (msgB name m)
  rw [h, slt_nul, slt_msg name n m hn hm] at h2
  simp at h1 h2
  omega
theorem FrmOk.meas {name frm : ByteArray} {k : Nat} (h : FrmOk name frm k) : measF name frm = 1000001 - k := by
  unfold measF
  rcases h with ⟨rfl, rfl⟩ | ⟨n, hn, rfl, rfl⟩
  · rw [dif_neg]
    rintro ⟨n, _, h⟩
    have := congrArg ByteArray.size h
    rw [ByteArray.size_append, msgB_size] at this
    change 0 = _ at this
    omega
  · have h0 : ∃ m, m < 1000000 ∧ msgB name n ++ nul = msgB name m ++ nul := ⟨n, hn, rfl⟩
    rw [dif_pos h0]
    have := msg_nul_inj hn h0.choose_spec.1 h0.choose_spec.2
    omega
theorem FrmOk.lo {name frm : ByteArray} {k : Nat} (hn : NameOk name) (h : FrmOk name frm k) : ∃ lo, (if slt (loB name) frm then frm else loB name) = lo ∧ LoOk name k lo := by
  rcases h with ⟨rfl, rfl⟩ | ⟨n, hn2, rfl, rfl⟩
  · refine ⟨loB name, ?_, .inl ⟨rfl, rfl⟩⟩
    rw [if_neg]
    rw [show slt (loB name) ⟨#[]⟩ = false from by unfold slt; rw [ByteArray.toList_eq ⟨#[]⟩]; cases (loB name).toList <;> rfl]
    simp
  · exact ⟨_, if_pos (lo_msg hn n), .inr ⟨n, hn2, rfl, rfl⟩⟩
set_option maxHeartbeats 16000000 in
set_option maxRecDepth 100000 in
theorem recv1_does (b0 b1 b2 b3 b4 b5 q p since nn : Nat) (V : List (ByteArray × List Vn)) (rows : List Rw) (hs : Seen V since rows) (C : List Ch) (R : List Sp) (name : ByteArray) (u : Qu) (now long : Int) (res : Ms × Nat × List Ch × List Sp)
    (hr : Recv rows name u now long C R (loB name) res) (hI : QInv C R) (hn : NameOk name) (hud : u.dead.size ≤ 6) (hn0 : 0 ≤ now) (hn1 : now ≤ 1000000) (hl0 : 0 ≤ long) (hl1 : long ≤ 1000000) {φ : World → Prop} (hφ : ∀ w, φ w → LibOk w) :
    Does Tryz.prog 127 #[.pointer (some ⟨b0, 0, none⟩), .pointer (some ⟨b1, 0, none⟩), .pointer (some ⟨b2, 0, none⟩), .pointer (some ⟨b3, 0, none⟩), .pointer (some ⟨b4, 0, none⟩), .pointer (some ⟨b5, 0, none⟩)] [Var b0 [.pointer (some ⟨q, 0, none⟩)] 27, Var b1 [.string name] 9, Var b2 [.int .i64 now] 3, Var b3 [.int .i64 u.next, .int .i64 u.tries, .string u.dead] 187, Var b4 [.int .i64 long] 3, Var b5 (msC Ms.z) 104, ViewR q p since C R, VerR p nn V, .imm φ]
      (fun _ : Unit => (errV res.2.1, [Var b0 [.pointer (some ⟨q, 0, none⟩)] 27, Var b1 [.string name] 9, Var b2 [.int .i64 now] 3, Var b3 [.int .i64 u.next, .int .i64 u.tries, .string u.dead] 187, Var b4 [.int .i64 long] 3, Var b5 (msC res.1) 104, ViewR q p since res.2.2.1 res.2.2.2, VerR p nn V, .imm φ])) := by
  obtain ⟨un, ut, ud⟩ := u
  have hk6 : name.size ≤ 6 := hn.2.1
  unfold msC Ms.z
  dsimp only at hud ⊢
  have HS := Lib.hid hs
  have HNM := Lib.hid hn
  clear hs hn
  intro S W w L0 hO; simp only [CA] at hO
  ((try clear hf); have hf := fa_ hO)
  go_enter Tryz.func127, Tryz.ntmps127
  go_wp2_with (first | ((refine sy_ hO ?_); clear hO; intro w9 hO; (try dsimp only [List.set] at hO); ((try clear hf); have hf := fa_ hO)))
  have hO9 := hO
  clear hO hf
  have HR0 := Lib.hid hr
  have HI0 := Lib.hid hI
  clear hr hI
  go_loopw [7] (fun v7 wr => ∃ (C' : List Ch) (R' : List Sp) (frm : ByteArray), v7 = .string frm ∧ Hid (QInv C' R') ∧ Hid (∃ k lo, FrmOk name frm k ∧ LoOk name k lo ∧ (if slt (loB name) frm then frm else loB name) = lo ∧ Recv rows name ⟨un, ut, ud⟩ now long C' R' lo res) ∧ Own S W wr ([Var b0 [.pointer (some ⟨q, 0, none⟩)] 27, Var b1 [.string name] 9, Var b2 [.int .i64 now] 3, Var b3 [.int .i64 un, .int .i64 ut, .string ud] 187, Var b4 [.int .i64 long] 3, Var b5 [.int .i64 0, .int .i64 0, .int .i64 0, .string ⟨#[]⟩] 104, ViewR q p since C' R', VerR p nn V, .imm φ] ++ L0)) (fun v7 _ => measF name (strOf v7))
  case atStart =>
    obtain ⟨lo, h1, h2⟩ := FrmOk.lo HNM.out (k := 0) (frm := ⟨#[]⟩) (.inl ⟨rfl, rfl⟩)
    have h3 : lo = loB name := by rcases h2 with ⟨_, h⟩ | ⟨n, _, h, _⟩; exact h; omega
    subst h3
    exact ⟨C, R, ⟨#[]⟩, rfl, HI0, Lib.hid ⟨0, _, .inl ⟨rfl, rfl⟩, h2, h1, HR0.out⟩, by (try simp only [CA]); exact hO9.cut sb_⟩
  case round =>
    clear hO9 HR0 HI0
    obtain ⟨C', R', frm, rfl, HI, HR, hO⟩ := hrel
    rename World => w1
    simp only [List.cons_append, List.nil_append] at hO
    have hc12 := HI.out.c12
    have hr40 := HI.out.r40
    obtain ⟨k, lo, hfr, hlo, hle, hr⟩ := HR.out
    have HM := Lib.hid hfr.meas
    clear HR
    ((try clear hf); have hf := fa_ hO)
    have hks := seen_keys HS.out.qr HI.out lo (hiB name)
    have hL0 := HS.out.scan C' lo (hiB name)
    cases hr with
    | bad hL h1 e =>
      have HFN := first_none q p since nn V C' R' name frm lo (hiB name) _ hle rfl (hL0.trans hL) HS.out.nd (by omega) (by omega) HS.out.vl HS.out.v1 (hL ▸ hks) (by omega) h1
      unfold Ms.v at HFN
      unfold Ms.z at HFN e
      dsimp only at HFN
      generalize scnB _ R' lo (hiB name) 1 = R2 at *
      generalize scnN _ R' lo (hiB name) 1 = N at *
      have HE := Lib.hid e
      clear e
      rcases errV_or N with ⟨h0, e⟩ | ⟨M, h0, e⟩
      · exact absurd h0 h1
      · rw [e] at HFN
        have HV := Lib.hid e
        clear e h0 h1 hL hL0 hks hle hlo hfr
        go_wp2_with (first | (go_at_call 128; (with_reducible apply Does.use hO (HFN); (focus exact tk_); clear hO; intro x9 w9 hO; dsimp only at hO ⊢; simp only [CA] at hO; ((try clear hf); have hf := fa_ hO))) | ((refine sy_ hO ?_); clear hO; intro w9 hO; (try dsimp only [List.set] at hO); ((try clear hf); have hf := fa_ hO)))
        go_ret
        rw [HE.out]
        dsimp only
        refine ⟨(), (by rw [HV.out]; rfl), ?_⟩
        (try simp only [CA])
        exact hO.cut sb_
    | empty hL h1 e =>
      have HFN := first_empty q p since nn V C' R' name frm lo (hiB name) hle rfl (hL0.trans hL) HS.out.nd (by omega) (by omega) HS.out.vl HS.out.v1 (by omega) h1
      unfold Ms.v at HFN
      unfold Ms.z at HFN e
      dsimp only at HFN
      generalize scnB _ R' lo (hiB name) 1 = R2 at *
      have HE := Lib.hid e
      clear e h1 hL hL0 hks hle hlo hfr
      go_wp2_with (first | (go_at_call 128; (with_reducible apply Does.use hO (HFN); (focus exact tk_); clear hO; intro x9 w9 hO; dsimp only at hO ⊢; simp only [CA] at hO; ((try clear hf); have hf := fa_ hO))) | ((refine sy_ hO ?_); clear hO; intro w9 hO; (try dsimp only [List.set] at hO); ((try clear hf); have hf := fa_ hO)))
      go_ret
      rw [HE.out]
      dsimp only
      refine ⟨(), rfl, ?_⟩
      (try simp only [CA])
      exact hO.cut sb_
    | @text _ _ _ _ n v t hL h1 hn2 hv h2 e =>
      have HFN := first_some q p since nn n V C' R' name frm lo (hiB name) v t hle rfl (hL0.trans hL) HS.out.nd (by omega) (by omega) HS.out.vl HS.out.v1 (by omega) (hL ▸ hks) h1 hn2 (by omega) hφ
      have hz : (msOf n v).1 = Ms.z := by
        rcases msOf_cases n v with ⟨m, hm, _⟩ | ⟨hm, _⟩
        · rw [hm] at h2; exact absurd rfl h2
        · rw [hm]
      rw [hz] at HFN
      unfold Ms.v at HFN
      unfold Ms.z at HFN e
      dsimp only at HFN
      generalize scnB _ R' lo (hiB name) 1 = R2 at *
      rw [decide_eq_false h2] at HFN
      generalize (msOf n v).2 = N at *
      have HE := Lib.hid e
      clear e
      rcases errV_or N with ⟨h0, e⟩ | ⟨M, h0, e⟩
      · exact absurd h0 h2
      · rw [e] at HFN
        have HV := Lib.hid e
        clear e h0 h1 h2 hz hL hL0 hks hle hlo hfr
        go_wp2_with (first | (go_at_call 128; (with_reducible apply Does.use hO (HFN); (focus exact tk_); clear hO; intro x9 w9 hO; dsimp only at hO ⊢; simp only [CA] at hO; ((try clear hf); have hf := fa_ hO))) | ((refine sy_ hO ?_); clear hO; intro w9 hO; (try dsimp only [List.set] at hO); ((try clear hf); have hf := fa_ hO)))
        go_ret
        rw [HE.out]
        dsimp only
        refine ⟨(), (by rw [HV.out]; rfl), ?_⟩
        (try simp only [CA])
        exact hO.cut sb_
    | @skip _ _ _ _ n v t hL h1 hn2 hv h2 h3 h =>
      have HFN := first_some q p since nn n V C' R' name frm lo (hiB name) v t hle rfl (hL0.trans hL) HS.out.nd (by omega) (by omega) HS.out.vl HS.out.v1 (by omega) (hL ▸ hks) h1 hn2 (by omega) hφ
      have HMG : ∀ w, LibOk w → Calls Tryz.prog 129 #[.string name, .int .i64 (n : Int)] w fun e w' => e = .returned (.string (msgB name n)) ∧ Ext w w' := fun w h => message_any name n w (by omega) h (by omega)
      have HPT : ∀ w, Calls Tryz.prog 75 #[.string (msgB name n)] w fun e w' => e = .returned (.agg #[.string (msgB name n), .string (msgB name n ++ nul)]) ∧ Ext w w' := fun w => point_any (msgB name n) w (by rw [msgB_size]; omega)
      have hkn : k ≤ n := hlo.num hn2 (List.mem_filter.1 (show (⟨msgB name n, v⟩ : Rw) ∈ inR lo (hiB name) (C'.foldl appR rows) by rw [hL]; exact List.mem_cons_self ..)).2
      have hfr2 : FrmOk name (msgB name n ++ nul) (n + 1) := .inr ⟨n, hn2, rfl, rfl⟩
      have HF2 := Lib.hid hfr2
      have HM2 := Lib.hid (show measF name (msgB name n ++ nul) < measF name frm by rw [hfr.meas, hfr2.meas]; have := hfr2; omega)
      clear hfr2
      have hmm : (msOf n v).1.num = n ∧ ¬ (msOf n v).1.bad := by
        rcases msOf_cases n v with ⟨m, hm, hmn, hmb, _⟩ | ⟨hm, _⟩
        · rw [hm]; exact ⟨hmn, hmb⟩
        · rw [hm] at h2; cases h2
      rw [h2, show errV 0 = .nilIface from rfl, decide_eq_true (show (0 : Nat) = 0 from rfl)] at HFN
      generalize (msOf n v).1 = mm at *
      obtain ⟨mn, mt, mu, mb⟩ := mm
      obtain ⟨hmn, hmb⟩ := hmm
      dsimp only at hmn
      subst hmn
      unfold Ms.v at HFN
      dsimp only at *
      have hmm : ¬ Ms.bad ⟨n, mt, mu, mb⟩ := hmb
      unfold Ms.bad at hmb
      dsimp only at hmb
      have hm1 : 0 ≤ mt ∧ mt ≤ 9 ∧ 0 ≤ mu ∧ mu ≤ 2000000 := by omega
      obtain ⟨hm1, hm2, hm3, hm4⟩ := hm1
      clear hmb
      have HI2 := Lib.hid (HI.out.scan (⟨msgB name n, v⟩ :: t) lo (hiB name) 1)
      have HR2 := Lib.hid h
      generalize scnB _ R' lo (hiB name) 1 = R2 at *
      clear h h1 h2 hL hL0 hks hle hlo hfr hmm
      go_wp2_with (first | (go_at_call 128; (with_reducible apply Does.use hO (HFN); (focus exact tk_); clear hO; intro x9 w9 hO; dsimp only at hO ⊢; simp only [CA] at hO; ((try clear hf); have hf := fa_ hO))) | (go_at_call 129; (with_reducible apply Calls.mono (HMG _ (hφ _ (Own.immOf (φ := φ) hO pk_))); rintro e8 w8 ⟨rfl, hx8⟩; replace hO := hO.ext hx8; clear hx8; dsimp only; ((try clear hf); have hf := fa_ hO))) | (go_at_call 75; (with_reducible apply Calls.mono (HPT _); rintro e8 w8 ⟨rfl, hx8⟩; replace hO := hO.ext hx8; clear hx8; dsimp only; ((try clear hf); have hf := fa_ hO))) | ((refine sy_ hO ?_); clear hO; intro w9 hO; (try dsimp only [List.set] at hO); ((try clear hf); have hf := fa_ hO)))
      all_goals try (exfalso; omega; done)
      exact ⟨⟨C', R2, msgB name n ++ nul, rfl, HI2, Lib.hid ⟨n + 1, _, HF2.out, .inr ⟨n, hn2, rfl, rfl⟩, if_pos (lo_msg HNM.out n), HR2.out⟩, by (try simp only [CA]); exact hO.cut sb_⟩, HM2.out⟩
    | @lost _ _ _ _ n v t hL h1 hn2 hv h2 h3 h4 h5 e =>
      have HFN := first_some q p since nn n V C' R' name frm lo (hiB name) v t hle rfl (hL0.trans hL) HS.out.nd (by omega) (by omega) HS.out.vl HS.out.v1 (by omega) (hL ▸ hks) h1 hn2 (by omega) hφ
      have HMG : ∀ w, LibOk w → Calls Tryz.prog 129 #[.string name, .int .i64 (n : Int)] w fun e w' => e = .returned (.string (msgB name n)) ∧ Ext w w' := fun w h => message_any name n w (by omega) h (by omega)
      have HPT : ∀ w, Calls Tryz.prog 75 #[.string (msgB name n)] w fun e w' => e = .returned (.agg #[.string (msgB name n), .string (msgB name n ++ nul)]) ∧ Ext w w' := fun w => point_any (msgB name n) w (by rw [msgB_size]; omega)
      have hkn : k ≤ n := hlo.num hn2 (List.mem_filter.1 (show (⟨msgB name n, v⟩ : Rw) ∈ inR lo (hiB name) (C'.foldl appR rows) by rw [hL]; exact List.mem_cons_self ..)).2
      have hfr2 : FrmOk name (msgB name n ++ nul) (n + 1) := .inr ⟨n, hn2, rfl, rfl⟩
      have HF2 := Lib.hid hfr2
      have HM2 := Lib.hid (show measF name (msgB name n ++ nul) < measF name frm by rw [hfr.meas, hfr2.meas]; have := hfr2; omega)
      clear hfr2
      have hmm : (msOf n v).1.num = n ∧ ¬ (msOf n v).1.bad := by
        rcases msOf_cases n v with ⟨m, hm, hmn, hmb, _⟩ | ⟨hm, _⟩
        · rw [hm]; exact ⟨hmn, hmb⟩
        · rw [hm] at h2; cases h2
      rw [h2, show errV 0 = .nilIface from rfl, decide_eq_true (show (0 : Nat) = 0 from rfl)] at HFN
      generalize (msOf n v).1 = mm at *
      obtain ⟨mn, mt, mu, mb⟩ := mm
      obtain ⟨hmn, hmb⟩ := hmm
      dsimp only at hmn
      subst hmn
      unfold Ms.v at HFN
      dsimp only at *
      have hmm : ¬ Ms.bad ⟨n, mt, mu, mb⟩ := hmb
      unfold Ms.bad at hmb
      dsimp only at hmb
      have hm1 : 0 ≤ mt ∧ mt ≤ 9 ∧ 0 ≤ mu ∧ mu ≤ 2000000 := by omega
      obtain ⟨hm1, hm2, hm3, hm4⟩ := hm1
      clear hmb
      have HI2 := HI.out.scan (⟨msgB name n, v⟩ :: t) lo (hiB name) 1
      have HB := qbury_does q p since nn V (valR rows) C' (scnB (⟨msgB name n, v⟩ :: t) R' lo (hiB name) 1) name ⟨un, ut, ud⟩ ⟨n, mt, mu, mb⟩ (by dsimp only; omega) (by dsimp only; omega) (by omega) (by omega) HI.out.ups hud HS.out.rd HS.out.val (HI2.put _).val HI2.r40 HS.out.v6 hφ
      generalize scnB _ R' lo (hiB name) 1 = R2 at *
      unfold Ms.z at e
      generalize buryA (valR rows) C' R2 name ⟨un, ut, ud⟩ ⟨n, mt, mu, mb⟩ = b at *
      have HE := Lib.hid e
      clear e
      obtain ⟨ba, bc, br⟩ := b
      unfold Qu.v Ms.v at HB
      dsimp only at HB h5 HE
      rcases errV_or ba with ⟨h0, e⟩ | ⟨M, h0, e⟩
      · exact absurd h0 h5
      · rw [e] at HB
        have HV := Lib.hid e
        clear HI2 e h0 h1 h2 hL hL0 hks hle hlo hfr h5 hmm
        go_wp2_with (first | (go_at_call 128; (with_reducible apply Does.use hO (HFN); (focus exact tk_); clear hO; intro x9 w9 hO; dsimp only at hO ⊢; simp only [CA] at hO; ((try clear hf); have hf := fa_ hO))) | (go_at_call 129; (with_reducible apply Calls.mono (HMG _ (hφ _ (Own.immOf (φ := φ) hO pk_))); rintro e8 w8 ⟨rfl, hx8⟩; replace hO := hO.ext hx8; clear hx8; dsimp only; ((try clear hf); have hf := fa_ hO))) | (go_at_call 75; (with_reducible apply Calls.mono (HPT _); rintro e8 w8 ⟨rfl, hx8⟩; replace hO := hO.ext hx8; clear hx8; dsimp only; ((try clear hf); have hf := fa_ hO))) | (go_at_call 130; (with_reducible apply Does.use hO (HB); (focus exact tk_); clear hO; intro x9 w9 hO; dsimp only at hO ⊢; simp only [CA] at hO; ((try clear hf); have hf := fa_ hO))) | ((refine sy_ hO ?_); clear hO; intro w9 hO; (try dsimp only [List.set] at hO); ((try clear hf); have hf := fa_ hO)))
        all_goals try (exfalso; omega; done)
        go_ret
        rw [HE.out]
        dsimp only
        refine ⟨(), (by rw [HV.out]; rfl), ?_⟩
        (try simp only [CA])
        exact hO.cut sb_
    | @bury _ _ _ _ n v t hL h1 hn2 hv h2 h3 h4 h5 h =>
      have HFN := first_some q p since nn n V C' R' name frm lo (hiB name) v t hle rfl (hL0.trans hL) HS.out.nd (by omega) (by omega) HS.out.vl HS.out.v1 (by omega) (hL ▸ hks) h1 hn2 (by omega) hφ
      have HMG : ∀ w, LibOk w → Calls Tryz.prog 129 #[.string name, .int .i64 (n : Int)] w fun e w' => e = .returned (.string (msgB name n)) ∧ Ext w w' := fun w h => message_any name n w (by omega) h (by omega)
      have HPT : ∀ w, Calls Tryz.prog 75 #[.string (msgB name n)] w fun e w' => e = .returned (.agg #[.string (msgB name n), .string (msgB name n ++ nul)]) ∧ Ext w w' := fun w => point_any (msgB name n) w (by rw [msgB_size]; omega)
      have hkn : k ≤ n := hlo.num hn2 (List.mem_filter.1 (show (⟨msgB name n, v⟩ : Rw) ∈ inR lo (hiB name) (C'.foldl appR rows) by rw [hL]; exact List.mem_cons_self ..)).2
      have hfr2 : FrmOk name (msgB name n ++ nul) (n + 1) := .inr ⟨n, hn2, rfl, rfl⟩
      have HF2 := Lib.hid hfr2
      have HM2 := Lib.hid (show measF name (msgB name n ++ nul) < measF name frm by rw [hfr.meas, hfr2.meas]; have := hfr2; omega)
      clear hfr2
      have hmm : (msOf n v).1.num = n ∧ ¬ (msOf n v).1.bad := by
        rcases msOf_cases n v with ⟨m, hm, hmn, hmb, _⟩ | ⟨hm, _⟩
        · rw [hm]; exact ⟨hmn, hmb⟩
        · rw [hm] at h2; cases h2
      rw [h2, show errV 0 = .nilIface from rfl, decide_eq_true (show (0 : Nat) = 0 from rfl)] at HFN
      generalize (msOf n v).1 = mm at *
      obtain ⟨mn, mt, mu, mb⟩ := mm
      obtain ⟨hmn, hmb⟩ := hmm
      dsimp only at hmn
      subst hmn
      unfold Ms.v at HFN
      dsimp only at *
      have hmm : ¬ Ms.bad ⟨n, mt, mu, mb⟩ := hmb
      unfold Ms.bad at hmb
      dsimp only at hmb
      have hm1 : 0 ≤ mt ∧ mt ≤ 9 ∧ 0 ≤ mu ∧ mu ≤ 2000000 := by omega
      obtain ⟨hm1, hm2, hm3, hm4⟩ := hm1
      clear hmb
      have HI1 := HI.out.scan (⟨msgB name n, v⟩ :: t) lo (hiB name) 1
      have HB := qbury_does q p since nn V (valR rows) C' (scnB (⟨msgB name n, v⟩ :: t) R' lo (hiB name) 1) name ⟨un, ut, ud⟩ ⟨n, mt, mu, mb⟩ (by dsimp only; omega) (by dsimp only; omega) (by omega) (by omega) HI.out.ups hud HS.out.rd HS.out.val (HI1.put _).val HI1.r40 HS.out.v6 hφ
      have HI2 := Lib.hid (HI1.bury (valR rows) name ⟨un, ut, ud⟩ ⟨n, mt, mu, mb⟩)
      have HR2 := Lib.hid h
      generalize scnB _ R' lo (hiB name) 1 = R2 at *
      generalize buryA (valR rows) C' R2 name ⟨un, ut, ud⟩ ⟨n, mt, mu, mb⟩ = b at *
      obtain ⟨ba, bc, br⟩ := b
      unfold Qu.v Ms.v at HB
      dsimp only at HB h5 HI2 HR2
      rw [h5, show errV 0 = .nilIface from rfl] at HB
      clear HI1 h h1 h2 hL hL0 hks hle hlo hfr h5 hmm
      go_wp2_with (first | (go_at_call 128; (with_reducible apply Does.use hO (HFN); (focus exact tk_); clear hO; intro x9 w9 hO; dsimp only at hO ⊢; simp only [CA] at hO; ((try clear hf); have hf := fa_ hO))) | (go_at_call 129; (with_reducible apply Calls.mono (HMG _ (hφ _ (Own.immOf (φ := φ) hO pk_))); rintro e8 w8 ⟨rfl, hx8⟩; replace hO := hO.ext hx8; clear hx8; dsimp only; ((try clear hf); have hf := fa_ hO))) | (go_at_call 75; (with_reducible apply Calls.mono (HPT _); rintro e8 w8 ⟨rfl, hx8⟩; replace hO := hO.ext hx8; clear hx8; dsimp only; ((try clear hf); have hf := fa_ hO))) | (go_at_call 130; (with_reducible apply Does.use hO (HB); (focus exact tk_); clear hO; intro x9 w9 hO; dsimp only at hO ⊢; simp only [CA] at hO; ((try clear hf); have hf := fa_ hO))) | ((refine sy_ hO ?_); clear hO; intro w9 hO; (try dsimp only [List.set] at hO); ((try clear hf); have hf := fa_ hO)))
      all_goals try (exfalso; omega; done)
      exact ⟨⟨bc, br, msgB name n ++ nul, rfl, HI2, Lib.hid ⟨n + 1, _, HF2.out, .inr ⟨n, hn2, rfl, rfl⟩, if_pos (lo_msg HNM.out n), HR2.out⟩, by (try simp only [CA]); exact hO.cut sb_⟩, HM2.out⟩
    | @take _ _ _ _ n v t hL h1 hn2 hv h2 h3 h4 e =>
      have HFN := first_some q p since nn n V C' R' name frm lo (hiB name) v t hle rfl (hL0.trans hL) HS.out.nd (by omega) (by omega) HS.out.vl HS.out.v1 (by omega) (hL ▸ hks) h1 hn2 (by omega) hφ
      have HMG : ∀ w, LibOk w → Calls Tryz.prog 129 #[.string name, .int .i64 (n : Int)] w fun e w' => e = .returned (.string (msgB name n)) ∧ Ext w w' := fun w h => message_any name n w (by omega) h (by omega)
      have HPT : ∀ w, Calls Tryz.prog 75 #[.string (msgB name n)] w fun e w' => e = .returned (.agg #[.string (msgB name n), .string (msgB name n ++ nul)]) ∧ Ext w w' := fun w => point_any (msgB name n) w (by rw [msgB_size]; omega)
      have hkn : k ≤ n := hlo.num hn2 (List.mem_filter.1 (show (⟨msgB name n, v⟩ : Rw) ∈ inR lo (hiB name) (C'.foldl appR rows) by rw [hL]; exact List.mem_cons_self ..)).2
      have hfr2 : FrmOk name (msgB name n ++ nul) (n + 1) := .inr ⟨n, hn2, rfl, rfl⟩
      have HF2 := Lib.hid hfr2
      have HM2 := Lib.hid (show measF name (msgB name n ++ nul) < measF name frm by rw [hfr.meas, hfr2.meas]; have := hfr2; omega)
      clear hfr2
      have hmm : (msOf n v).1.num = n ∧ ¬ (msOf n v).1.bad := by
        rcases msOf_cases n v with ⟨m, hm, hmn, hmb, _⟩ | ⟨hm, _⟩
        · rw [hm]; exact ⟨hmn, hmb⟩
        · rw [hm] at h2; cases h2
      rw [h2, show errV 0 = .nilIface from rfl, decide_eq_true (show (0 : Nat) = 0 from rfl)] at HFN
      generalize (msOf n v).1 = mm at *
      obtain ⟨mn, mt, mu, mb⟩ := mm
      obtain ⟨hmn, hmb⟩ := hmm
      dsimp only at hmn
      subst hmn
      unfold Ms.v at HFN
      dsimp only at *
      have hmm : ¬ Ms.bad ⟨n, mt, mu, mb⟩ := hmb
      unfold Ms.bad at hmb
      dsimp only at hmb
      have hm1 : 0 ≤ mt ∧ mt ≤ 9 ∧ 0 ≤ mu ∧ mu ≤ 2000000 := by omega
      obtain ⟨hm1, hm2, hm3, hm4⟩ := hm1
      clear hmb
      have HST := qset_does q p since C' (scnB (⟨msgB name n, v⟩ :: t) R' lo (hiB name) 1) name ((⟨n, mt, mu, mb⟩ : Ms).more (now + long)) (by unfold Ms.more; dsimp only; omega) (by omega) (by omega) HI.out.ups hφ
      generalize scnB _ R' lo (hiB name) 1 = R2 at *
      unfold Ms.more at *
      dsimp only at HST e
      generalize setL C' name ⟨n, mt + 1, now + long, mb⟩ = C2 at *
      generalize setN C' name ⟨n, mt + 1, now + long, mb⟩ = N at *
      unfold Ms.v at HST
      dsimp only at HST
      have HE := Lib.hid e
      obtain ⟨ev, hev⟩ : ∃ ev, errV N = ev := ⟨_, rfl⟩
      have HV := Lib.hid hev
      rw [hev] at HST
      clear hev e h1 h2 hL hL0 hks hle hlo hfr hmm
      go_wp2_with (first | (go_at_call 128; (with_reducible apply Does.use hO (HFN); (focus exact tk_); clear hO; intro x9 w9 hO; dsimp only at hO ⊢; simp only [CA] at hO; ((try clear hf); have hf := fa_ hO))) | (go_at_call 129; (with_reducible apply Calls.mono (HMG _ (hφ _ (Own.immOf (φ := φ) hO pk_))); rintro e8 w8 ⟨rfl, hx8⟩; replace hO := hO.ext hx8; clear hx8; dsimp only; ((try clear hf); have hf := fa_ hO))) | (go_at_call 75; (with_reducible apply Calls.mono (HPT _); rintro e8 w8 ⟨rfl, hx8⟩; replace hO := hO.ext hx8; clear hx8; dsimp only; ((try clear hf); have hf := fa_ hO))) | (go_at_call 131; (with_reducible apply Does.use hO (HST); (focus exact tk_); clear hO; intro x9 w9 hO; dsimp only at hO ⊢; simp only [CA] at hO; ((try clear hf); have hf := fa_ hO))) | ((refine sy_ hO ?_); clear hO; intro w9 hO; (try dsimp only [List.set] at hO); ((try clear hf); have hf := fa_ hO)))
      all_goals try (exfalso; omega; done)
      go_ret
      rw [HE.out]
      dsimp only
      refine ⟨(), (by rw [HV.out]; rfl), ?_⟩
      (try simp only [CA])
      exact hO.cut sb_
end Go.Proofs.YtmknhibaoopjjaaGreatDoor
namespace Go.Proofs.YtmknhibaoopjjaaGreatDoor
open Go.RowKit
/-- What Receive answers, the changes, what was read. -/
inductive RecvAns (rows : List Rw) (C : List Ch) (R : List Sp) (name : ByteArray) (now long : Int) : Ms × Nat × List Ch × List Sp → Prop
  | nofind {res} (h : (findN (valR rows (queB name)) C R name).2 ≠ 0) (e : res = (Ms.z, (findN (valR rows (queB name)) C R name).2, C, findR C R name)) : RecvAns rows C R name now long res
  | notime {res} (h0 : (findN (valR rows (queB name)) C R name).2 = 0) (h : timeN [now, long] ≠ 0) (e : res = (Ms.z, 1, C, findR C R name)) : RecvAns rows C R name now long res
  | fail {res r} (h0 : (findN (valR rows (queB name)) C R name).2 = 0) (ht : timeN [now, long] = 0) (hr : Recv rows name (findN (valR rows (queB name)) C R name).1 now long C (findR C R name) (loB name) r) (hb : r.2.1 ≠ 0) (e : res = (Ms.z, r.2.1, C, r.2.2.2)) : RecvAns rows C R name now long res
  | done {res} (h0 : (findN (valR rows (queB name)) C R name).2 = 0) (ht : timeN [now, long] = 0) (hr : Recv rows name (findN (valR rows (queB name)) C R name).1 now long C (findR C R name) (loB name) res) (hb : res.2.1 = 0) : RecvAns rows C R name now long res
theorem recvA_ex {rows : List Rw} {C : List Ch} {R : List Sp} (name : ByteArray) (now long : Int) (hr : QRows rows) (h : QInv C R) : ∃ res, RecvAns rows C R name now long res ∧ QInv res.2.2.1 res.2.2.2 := by
  by_cases h0 : (findN (valR rows (queB name)) C R name).2 = 0
  · by_cases ht : timeN [now, long] = 0
    · have hn := (findN_ok h0).2.2.2.2
      obtain ⟨res, h1, h2⟩ := recv_ex (findN (valR rows (queB name)) C R name).1 now long hr hn 1000000 (k := 0) (by omega) (h.find name) (.inl ⟨rfl, rfl⟩)
      by_cases hb : res.2.1 = 0
      · exact ⟨res, .done h0 ht h1 hb, h2⟩
      · exact ⟨_, .fail h0 ht h1 hb rfl, h.reads h2.r40⟩
    · exact ⟨_, .notime h0 ht rfl, h.find _⟩
  · exact ⟨_, .nofind h0 rfl, h.find _⟩
theorem timeN_two {a b : Int} (h : timeN [a, b] = 0) : 0 ≤ a ∧ a ≤ 1000000 ∧ 0 ≤ b ∧ b ≤ 1000000 := by
  unfold timeN at h
  split at h
  · cases h
  · rename_i h1
    unfold badT at h1
    simp at h1
    omega
theorem time_two {b : Nat} {t : TypeId} {x y : Int} {w : World} (h : (Var b [.int .i64 x, .int .i64 y] t).facts w) : ValsAt w (some ⟨b, 0, none⟩) ([x, y].map (Value.int .i64)) :=
  .inr ⟨b, 0, rfl, fun i hi => Var.at (t := t) h i _ (List.getElem?_eq_getElem hi)⟩
set_option maxHeartbeats 4000000 in
set_option maxRecDepth 100000 in
theorem allRecv_does (b0 b1 b2 b3 b4 b5 q p since nn : Nat) (V : List (ByteArray × List Vn)) (rows : List Rw) (hs : Seen V since rows) (C : List Ch) (R : List Sp) (name : ByteArray) (u : Qu) (now long : Int) (res : Ms × Nat × List Ch × List Sp)
    (hr : Recv rows name u now long C R (loB name) res) (hI : QInv C R) (hn : NameOk name) (hud : u.dead.size ≤ 6) (hn0 : 0 ≤ now) (hn1 : now ≤ 1000000) (hl0 : 0 ≤ long) (hl1 : long ≤ 1000000) {φ : World → Prop} (hφ : ∀ w, φ w → LibOk w) :
    Does Tryz.prog 124 #[.pointer (some ⟨q, 0, none⟩), .func (.func 127) #[] #[.pointer (some ⟨b0, 0, none⟩), .pointer (some ⟨b1, 0, none⟩), .pointer (some ⟨b2, 0, none⟩), .pointer (some ⟨b3, 0, none⟩), .pointer (some ⟨b4, 0, none⟩), .pointer (some ⟨b5, 0, none⟩)]] [Var b0 [.pointer (some ⟨q, 0, none⟩)] 27, Var b1 [.string name] 9, Var b2 [.int .i64 now] 3, Var b3 [.int .i64 u.next, .int .i64 u.tries, .string u.dead] 187, Var b4 [.int .i64 long] 3, Var b5 (msC Ms.z) 104, ViewR q p since C R, VerR p nn V, .imm φ]
      (fun _ : Unit => (errV res.2.1, [Var b0 [.pointer (some ⟨q, 0, none⟩)] 27, Var b1 [.string name] 9, Var b2 [.int .i64 now] 3, Var b3 [.int .i64 u.next, .int .i64 u.tries, .string u.dead] 187, Var b4 [.int .i64 long] 3, Var b5 (msC res.1) 104, ViewR q p since (if res.2.1 = 0 then res.2.2.1 else C) res.2.2.2, VerR p nn V, .imm φ])) := by
  have hc12 := hI.c12
  have H1 := recv1_does b0 b1 b2 b3 b4 b5 q p since nn V rows hs C R name u now long res hr hI hn hud hn0 hn1 hl0 hl1 hφ
  have HMK := vMark_does q p since C R (by omega)
  have HBK := fun C' R' a c => vBack_does q p since C' R' a c C (by omega)
  clear hs hr hI hn
  obtain ⟨⟨s1, s2, s3, s4⟩, sn, sc, sr⟩ := res
  obtain ⟨un, ut, ud⟩ := u
  unfold msC Ms.z at *
  dsimp only at H1 ⊢
  rcases errV_or sn with ⟨h0, e⟩ | ⟨M, h0, e⟩ <;> rw [e] at H1 ⊢ <;> clear e
  · rw [if_pos h0]
    intro S W w L0 hO; simp only [CA] at hO
    ((try clear hf); have hf := fa_ hO)
    go_enter Tryz.func124, Tryz.ntmps124
    go_wp2_with (first | (go_at_call 18; (with_reducible apply Does.use hO (HMK); (focus exact tk_); clear hO; intro x9 w9 hO; dsimp only at hO ⊢; simp only [CA] at hO; ((try clear hf); have hf := fa_ hO); (obtain ⟨ma, mc⟩ := x9; dsimp only at hO ⊢; ((try clear hf); have hf := fa_ hO)))) | (go_at_call 127; (with_reducible apply Does.use hO (H1); (focus exact tk_); clear hO; intro x9 w9 hO; dsimp only at hO ⊢; simp only [CA] at hO; ((try clear hf); have hf := fa_ hO))) | ((refine sy_ hO ?_); clear hO; intro w9 hO; (try dsimp only [List.set] at hO); ((try clear hf); have hf := fa_ hO)))
    go_ret
    refine ⟨(), rfl, ?_⟩
    (try simp only [CA])
    exact hO.cut sb_
  · rw [if_neg h0]
    intro S W w L0 hO; simp only [CA] at hO
    ((try clear hf); have hf := fa_ hO)
    go_enter Tryz.func124, Tryz.ntmps124
    go_upto_region 4 with (first | (go_at_call 18; (with_reducible apply Does.use hO (HMK); (focus exact tk_); clear hO; intro x9 w9 hO; dsimp only at hO ⊢; simp only [CA] at hO; ((try clear hf); have hf := fa_ hO); (obtain ⟨ma, mc⟩ := x9; dsimp only at hO ⊢; ((try clear hf); have hf := fa_ hO)))) | (go_at_call 127; (with_reducible apply Does.use hO (H1); (focus exact tk_); clear hO; intro x9 w9 hO; dsimp only at hO ⊢; simp only [CA] at hO; ((try clear hf); have hf := fa_ hO))) | ((refine sy_ hO ?_); clear hO; intro w9 hO; (try dsimp only [List.set] at hO); ((try clear hf); have hf := fa_ hO)))
    have hO := hO.rowCi (a := ma) (C := C) pk_
    ((try clear hf); have hf := fa_ hO)
    go_wp2_with (first | (go_at_call 26; (with_reducible apply Does.use hO (HBK _ _ _ _); (focus exact tk_); clear hO; intro x9 w9 hO; dsimp only at hO ⊢; simp only [CA] at hO; ((try clear hf); have hf := fa_ hO))) | ((refine sy_ hO ?_); clear hO; intro w9 hO; (try dsimp only [List.set] at hO); ((try clear hf); have hf := fa_ hO)))
    go_ret
    refine ⟨(), rfl, ?_⟩
    (try simp only [CA])
    exact hO.cut sb_
set_option maxHeartbeats 8000000 in
set_option maxRecDepth 100000 in
theorem qReceive_does (q p since nn : Nat) (V : List (ByteArray × List Vn)) (rows : List Rw) (hs : Seen V since rows) (C : List Ch) (R : List Sp) (name : ByteArray) (now long : Int) (res : Ms × Nat × List Ch × List Sp)
    (hr : RecvAns rows C R name now long res) (hI : QInv C R) (hk : name.size ≤ 200) {φ : World → Prop} (hφ : ∀ w, φ w → LibOk w) :
    Does Tryz.prog 56 #[.pointer (some ⟨q, 0, none⟩), .string name, .int .i64 now, .int .i64 long] [ViewR q p since C R, VerR p nn V, .imm φ]
      (fun _ : Unit => (.tuple #[res.1.v, errV res.2.1], [ViewR q p since res.2.2.1 res.2.2.2, VerR p nn V, .imm φ])) := by
  have hc12 := hI.c12
  have HF := qFind_does q p since nn V C R name _ (hs.rd _) (hs.val _) hI.val hk (by omega) hI.ups hI.r40 hs.v6 hφ
  have HTM := fun w b (h : (Var b [.int .i64 now, .int .i64 long] 3).facts w) => time_any (some ⟨b, 0, none⟩) 2 2 [now, long] w rfl (by omega) (time_two h)
  have hok := findN_ok (y := valR rows (queB name)) (C := C) (R := R) (name := name)
  have hAL := fun (b0 b1 b2 b3 b4 b5 : Nat) (u : Qu) r h1 h2 h3 h4 h5 h6 h7 => allRecv_does b0 b1 b2 b3 b4 b5 q p since nn V rows hs C (findR C R name) name u now long r h1 (hI.find name) h2 h3 h4 h5 h6 h7 hφ
  unfold Qu.v at HF
  cases hr with
  | nofind h e =>
    subst e
    generalize findN (valR rows (queB name)) C R name = f at *
    generalize findR C R name = R' at *
    obtain ⟨⟨un, ut, ud⟩, f2⟩ := f
    unfold Ms.v Ms.z
    dsimp only at HF h ⊢
    rcases errV_or f2 with ⟨h0, e⟩ | ⟨M, h0, e⟩
    · exact absurd h0 h
    · rw [e] at HF ⊢
      clear hAL hok HTM hs hI h0 h e
      intro S W w L0 hO; simp only [CA] at hO
      ((try clear hf); have hf := fa_ hO)
      go_enter Tryz.func56, Tryz.ntmps56
      go_wp2_with (first | (go_at_call 115; (with_reducible apply Does.use hO (HF); (focus exact tk_); clear hO; intro x9 w9 hO; dsimp only at hO ⊢; simp only [CA] at hO; ((try clear hf); have hf := fa_ hO))) | ((refine sy_ hO ?_); clear hO; intro w9 hO; (try dsimp only [List.set] at hO); ((try clear hf); have hf := fa_ hO)))
      ((refine bodyPost_run rfl fun K hK => ?_; simp [results, Tryz.results56, go_sem, hf]; refine hK _ ⟨(), ?_, ?_⟩); (focus rfl); (focus ((try simp only [CA]); exact hO.cut sb_)))
  | notime h0 h e =>
    subst e
    have h1 : timeN [now, long] = 1 := by have := timeN_le [now, long]; omega
    rw [h1] at HTM
    generalize findN (valR rows (queB name)) C R name = f at *
    generalize findR C R name = R' at *
    obtain ⟨⟨un, ut, ud⟩, f2⟩ := f
    unfold Ms.v Ms.z
    dsimp only at HF h0 ⊢
    subst h0
    rw [show errV 0 = .nilIface from rfl] at HF
    rw [show errV 1 = .iface 127 (.int .i64 1) from rfl] at HTM ⊢
    clear hAL hok hs hI h h1
    intro S W w L0 hO; simp only [CA] at hO
    ((try clear hf); have hf := fa_ hO)
    go_enter Tryz.func56, Tryz.ntmps56
    go_wp2_with (first | (go_at_call 115; (with_reducible apply Does.use hO (HF); (focus exact tk_); clear hO; intro x9 w9 hO; dsimp only at hO ⊢; simp only [CA] at hO; ((try clear hf); have hf := fa_ hO))) | (go_at_call 123; (with_reducible apply Calls.mono (HTM _ _ (hO.factOf (r := Var _ [.int .i64 now, .int .i64 long] 3) pk_)); rintro e8 w8 ⟨rfl, hx8⟩; replace hO := hO.ext hx8; clear hx8; dsimp only; ((try clear hf); have hf := fa_ hO))) | ((refine sy_ hO ?_); clear hO; intro w9 hO; (try dsimp only [List.set] at hO); ((try clear hf); have hf := fa_ hO)))
    ((refine bodyPost_run rfl fun K hK => ?_; simp [results, Tryz.results56, go_sem, hf]; refine hK _ ⟨(), ?_, ?_⟩); (focus rfl); (focus ((try simp only [CA]); exact hO.cut sb_)))
  | @fail r h0 ht hr hb e =>
    subst e
    obtain ⟨_, _, hd, _, hn⟩ := hok h0
    obtain ⟨t0, t1, t2, t3⟩ := timeN_two ht
    have HAL := fun (b0 b1 b2 b3 b4 b5 : Nat) => hAL b0 b1 b2 b3 b4 b5 _ r hr hn hd t0 t1 t2 t3
    rw [ht, show errV 0 = .nilIface from rfl] at HTM
    clear hAL hok hs hI hr hd hn
    generalize findN (valR rows (queB name)) C R name = f at *
    generalize findR C R name = R' at *
    obtain ⟨⟨un, ut, ud⟩, f2⟩ := f
    obtain ⟨⟨s1, s2, s3, s4⟩, sn, sc, sr⟩ := r
    unfold msC at HAL
    unfold Ms.z at *
    unfold Ms.v
    dsimp only at HF h0 hb HAL ⊢
    subst h0
    rw [show errV 0 = .nilIface from rfl] at HF
    rw [if_neg hb] at HAL
    rcases errV_or sn with ⟨h0, e⟩ | ⟨M, h0, e⟩
    · exact absurd h0 hb
    · rw [e] at HAL ⊢
      clear e h0 hb ht
      intro S W w L0 hO; simp only [CA] at hO
      ((try clear hf); have hf := fa_ hO)
      go_enter Tryz.func56, Tryz.ntmps56
      go_wp2_with (first | (go_at_call 115; (with_reducible apply Does.use hO (HF); (focus exact tk_); clear hO; intro x9 w9 hO; dsimp only at hO ⊢; simp only [CA] at hO; ((try clear hf); have hf := fa_ hO))) | (go_at_call 123; (with_reducible apply Calls.mono (HTM _ _ (hO.factOf (r := Var _ [.int .i64 now, .int .i64 long] 3) pk_)); rintro e8 w8 ⟨rfl, hx8⟩; replace hO := hO.ext hx8; clear hx8; dsimp only; ((try clear hf); have hf := fa_ hO))) | (go_at_call 124; (with_reducible apply Does.use hO (HAL _ _ _ _ _ _); (focus exact tk_); clear hO; intro x9 w9 hO; dsimp only at hO ⊢; simp only [CA] at hO; ((try clear hf); have hf := fa_ hO))) | ((refine sy_ hO ?_); clear hO; intro w9 hO; (try dsimp only [List.set] at hO); ((try clear hf); have hf := fa_ hO)))
      ((refine bodyPost_run rfl fun K hK => ?_; simp [results, Tryz.results56, go_sem, hf]; refine hK _ ⟨(), ?_, ?_⟩); (focus rfl); (focus ((try simp only [CA]); exact hO.cut sb_)))
  | done h0 ht hr hb =>
    obtain ⟨_, _, hd, _, hn⟩ := hok h0
    obtain ⟨t0, t1, t2, t3⟩ := timeN_two ht
    have HAL := fun (b0 b1 b2 b3 b4 b5 : Nat) => hAL b0 b1 b2 b3 b4 b5 _ res hr hn hd t0 t1 t2 t3
    rw [ht, show errV 0 = .nilIface from rfl] at HTM
    clear hAL hok hs hI hr hd hn
    generalize findN (valR rows (queB name)) C R name = f at *
    generalize findR C R name = R' at *
    obtain ⟨⟨un, ut, ud⟩, f2⟩ := f
    obtain ⟨⟨s1, s2, s3, s4⟩, sn, sc, sr⟩ := res
    unfold msC Ms.z at HAL
    unfold Ms.v
    dsimp only at HF h0 hb HAL ⊢
    subst h0 hb
    rw [if_pos rfl] at HAL
    rw [show errV 0 = .nilIface from rfl] at HF HAL ⊢
    clear ht
    intro S W w L0 hO; simp only [CA] at hO
    ((try clear hf); have hf := fa_ hO)
    go_enter Tryz.func56, Tryz.ntmps56
    go_wp2_with (first | (go_at_call 115; (with_reducible apply Does.use hO (HF); (focus exact tk_); clear hO; intro x9 w9 hO; dsimp only at hO ⊢; simp only [CA] at hO; ((try clear hf); have hf := fa_ hO))) | (go_at_call 123; (with_reducible apply Calls.mono (HTM _ _ (hO.factOf (r := Var _ [.int .i64 now, .int .i64 long] 3) pk_)); rintro e8 w8 ⟨rfl, hx8⟩; replace hO := hO.ext hx8; clear hx8; dsimp only; ((try clear hf); have hf := fa_ hO))) | (go_at_call 124; (with_reducible apply Does.use hO (HAL _ _ _ _ _ _); (focus exact tk_); clear hO; intro x9 w9 hO; dsimp only at hO ⊢; simp only [CA] at hO; ((try clear hf); have hf := fa_ hO))) | ((refine sy_ hO ?_); clear hO; intro w9 hO; (try dsimp only [List.set] at hO); ((try clear hf); have hf := fa_ hO)))
    ((refine bodyPost_run rfl fun K hK => ?_; simp [results, Tryz.results56, go_sem, hf]; refine hK _ ⟨(), ?_, ?_⟩); (focus rfl); (focus ((try simp only [CA]); exact hO.cut sb_)))
end Go.Proofs.YtmknhibaoopjjaaGreatDoor
namespace Go.Proofs.YtmknhibaoopjjaaGreatDoor
open Go.RowKit
/-- What the reference's mine answers: the message beside 'late', too. -/
noncomputable def mineB (B : ByteArray → ByteArray × Bool) (C : List Ch) (R : List Sp) (name : ByteArray) (n tries : Int) : Ms × Nat :=
  if (findN (B (queB name)) C R name).2 ≠ 0 then (Ms.z, (findN (B (queB name)) C R name).2) else if n < 0 ∨ 999999 < n ∨ tries < 1 then (Ms.z, 1)
  else if (getG (B (msgB name n.toNat)) C (findR C R name) (msgB name n.toNat)).2.2 ≠ 0 then (Ms.z, (getG (B (msgB name n.toNat)) C (findR C R name) (msgB name n.toNat)).2.2)
  else if (getG (B (msgB name n.toNat)) C (findR C R name) (msgB name n.toNat)).2.1 = false then (Ms.z, 11)
  else if (msOf n (getG (B (msgB name n.toNat)) C (findR C R name) (msgB name n.toNat)).1).2 ≠ 0 then ((msOf n (getG (B (msgB name n.toNat)) C (findR C R name) (msgB name n.toNat)).1).1, (msOf n (getG (B (msgB name n.toNat)) C (findR C R name) (msgB name n.toNat)).1).2)
  else if (msOf n (getG (B (msgB name n.toNat)) C (findR C R name) (msgB name n.toNat)).1).1.tries ≠ tries then ((msOf n (getG (B (msgB name n.toNat)) C (findR C R name) (msgB name n.toNat)).1).1, 11)
  else ((msOf n (getG (B (msgB name n.toNat)) C (findR C R name) (msgB name n.toNat)).1).1, 0)
theorem mineB_eq (B : ByteArray → ByteArray × Bool) (C : List Ch) (R : List Sp) (name : ByteArray) (n tries : Int) : (mineB B C R name n tries).2 = (mineA B C R name n tries).2 ∧ ((mineA B C R name n tries).2 = 0 → (mineB B C R name n tries).1 = (mineA B C R name n tries).1) := by
  unfold mineB mineA
  split
  · exact ⟨rfl, fun _ => rfl⟩
  · split
    · exact ⟨rfl, fun _ => rfl⟩
    · split
      · exact ⟨rfl, fun _ => rfl⟩
      · split
        · exact ⟨rfl, fun _ => rfl⟩
        · split
          · rename_i h; exact ⟨rfl, fun e => absurd e h⟩
          · split
            · exact ⟨rfl, fun e => by cases e⟩
            · exact ⟨rfl, fun _ => rfl⟩
set_option maxHeartbeats 8000000 in
set_option maxRecDepth 100000 in
theorem rmine_does (q since : Nat) (ra : Option Addr) (rc : Nat) (rows : List Rw) (C : List Ch) (R : List Sp) (name : ByteArray) (n tries : Int) (hys : ∀ k, (valR rows k).1.size ≤ 100) (hCs : ∀ c ∈ C, c.val.size ≤ 100)
    (hk : name.size ≤ 200) (hrl : rows.length ≤ 100000) (hC : C.length ≤ 300) (hR : R.length ≤ 40) :
    Does Tryz.prog 171 #[.pointer (some ⟨q, 0, none⟩), .string name, .int .i64 n, .int .i64 tries] [RViewR q since ra rc rows C R]
      (fun _ : Unit => (.tuple #[(mineB (valR rows) C R name n tries).1.v, .int .i64 (mineB (valR rows) C R name n tries).2], [RViewR q since ra rc rows C (mineR (valR rows) C R name n tries)])) := by
  have HF := rFind_does q since ra rc rows C R name (hys _) hCs hk hrl (by omega) hR
  have hR2 := findR_len (C := C) (k := name) hR
  have hms := msgB_size name n.toNat
  have HGT := rget_does q since ra rc rows C (findR C R name) (msgB name n.toNat) (by omega) hrl (by omega) hR2
  have hgs := getG_size (R := findR C R name) (k := msgB name n.toNat) (hys (msgB name n.toNat)) hCs
  unfold mineB mineR
  generalize findN (valR rows (queB name)) C R name = f at *
  generalize getG (valR rows (msgB name n.toNat)) C (findR C R name) (msgB name n.toNat) = g at *
  generalize getB C (findR C R name) (msgB name n.toNat) = R2 at *
  generalize findR C R name = R1 at *
  obtain ⟨⟨un, ut, ud⟩, f2⟩ := f
  obtain ⟨g1, g2, g3⟩ := g
  unfold Qu.v at HF
  dsimp only at HF HGT hgs ⊢
  clear hms
  by_cases h0 : f2 ≠ 0
  · rw [if_pos h0, if_pos (.inl h0)]
    unfold Ms.v Ms.z
    dsimp only
    clear HGT
    intro S W w L0 hO; simp only [CA] at hO
    ((try clear hf); have hf := fa_ hO)
    go_enter Tryz.func171, Tryz.ntmps171
    go_wp2_with (first | (go_at_call 116; (with_reducible apply Does.use hO (HF); (focus exact tk_); clear hO; intro x9 w9 hO; dsimp only at hO ⊢; simp only [CA] at hO; ((try clear hf); have hf := fa_ hO))) | ((refine sy_ hO ?_); clear hO; intro w9 hO; (try dsimp only [List.set] at hO); ((try clear hf); have hf := fa_ hO)))
    all_goals try (exfalso; omega; done)
    ((refine bodyPost_run rfl fun K hK => ?_; simp [results, Tryz.results171, go_sem, hf]; refine hK _ ⟨(), ?_, ?_⟩); (focus rfl); (focus ((try simp only [CA]); exact hO.cut sb_)))
  · obtain rfl : f2 = 0 := by omega
    rw [if_neg h0]
    by_cases hb : n < 0 ∨ 999999 < n ∨ tries < 1
    · rw [if_pos hb, if_pos (.inr hb)]
      unfold Ms.v Ms.z
      clear HGT
      intro S W w L0 hO; simp only [CA] at hO
      ((try clear hf); have hf := fa_ hO)
      go_enter Tryz.func171, Tryz.ntmps171
      go_wp2_with (first | (go_at_call 116; (with_reducible apply Does.use hO (HF); (focus exact tk_); clear hO; intro x9 w9 hO; dsimp only at hO ⊢; simp only [CA] at hO; ((try clear hf); have hf := fa_ hO))) | ((refine sy_ hO ?_); clear hO; intro w9 hO; (try dsimp only [List.set] at hO); ((try clear hf); have hf := fa_ hO)))
      all_goals try (exfalso; omega; done)
      all_goals ((refine bodyPost_run rfl fun K hK => ?_; simp [results, Tryz.results171, go_sem, hf]; refine hK _ ⟨(), ?_, ?_⟩); (focus rfl); (focus ((try simp only [CA]); exact hO.cut sb_)))
    · rw [if_neg hb, if_neg (show ¬ ((0 : Nat) ≠ 0 ∨ n < 0 ∨ 999999 < n ∨ tries < 1) by omega)]
      have HMG := fun w => messageKey_any name n w (by omega)
      generalize msgB name n.toNat = k at *
      clear h0
      by_cases h3 : g3 ≠ 0
      · rw [if_pos h3]
        unfold Ms.v Ms.z
        dsimp only
        intro S W w L0 hO; simp only [CA] at hO
        ((try clear hf); have hf := fa_ hO)
        go_enter Tryz.func171, Tryz.ntmps171
        go_wp2_with (first | (go_at_call 116; (with_reducible apply Does.use hO (HF); (focus exact tk_); clear hO; intro x9 w9 hO; dsimp only at hO ⊢; simp only [CA] at hO; ((try clear hf); have hf := fa_ hO))) | (go_at_call 172; (with_reducible apply Calls.mono (HMG _); rintro e8 w8 ⟨rfl, hx8⟩; replace hO := hO.ext hx8; clear hx8; dsimp only; ((try clear hf); have hf := fa_ hO))) | (go_at_call 28; (with_reducible apply Does.use hO (HGT); (focus exact tk_); clear hO; intro x9 w9 hO; dsimp only at hO ⊢; simp only [CA] at hO; ((try clear hf); have hf := fa_ hO))) | ((refine sy_ hO ?_); clear hO; intro w9 hO; (try dsimp only [List.set] at hO); ((try clear hf); have hf := fa_ hO)))
        all_goals try (exfalso; omega; done)
        ((refine bodyPost_run rfl fun K hK => ?_; simp [results, Tryz.results171, go_sem, hf]; refine hK _ ⟨(), ?_, ?_⟩); (focus rfl); (focus ((try simp only [CA]); exact hO.cut sb_)))
      · obtain rfl : g3 = 0 := by omega
        rw [if_neg h3]
        clear h3
        cases g2 with
        | false =>
          rw [if_pos rfl]
          unfold Ms.v Ms.z
          intro S W w L0 hO; simp only [CA] at hO
          ((try clear hf); have hf := fa_ hO)
          go_enter Tryz.func171, Tryz.ntmps171
          go_wp2_with (first | (go_at_call 116; (with_reducible apply Does.use hO (HF); (focus exact tk_); clear hO; intro x9 w9 hO; dsimp only at hO ⊢; simp only [CA] at hO; ((try clear hf); have hf := fa_ hO))) | (go_at_call 172; (with_reducible apply Calls.mono (HMG _); rintro e8 w8 ⟨rfl, hx8⟩; replace hO := hO.ext hx8; clear hx8; dsimp only; ((try clear hf); have hf := fa_ hO))) | (go_at_call 28; (with_reducible apply Does.use hO (HGT); (focus exact tk_); clear hO; intro x9 w9 hO; dsimp only at hO ⊢; simp only [CA] at hO; ((try clear hf); have hf := fa_ hO))) | ((refine sy_ hO ?_); clear hO; intro w9 hO; (try dsimp only [List.set] at hO); ((try clear hf); have hf := fa_ hO)))
          all_goals try (exfalso; omega; done)
          ((refine bodyPost_run rfl fun K hK => ?_; simp [results, Tryz.results171, go_sem, hf]; refine hK _ ⟨(), ?_, ?_⟩); (focus rfl); (focus ((try simp only [CA]); exact hO.cut sb_)))
        | true =>
          rw [if_neg Bool.noConfusion]
          have HMP := fun w => rmpar_any n g1 hgs w
          generalize msOf n g1 = r at *
          obtain ⟨⟨rn, rt, ru, rb⟩, r2⟩ := r
          unfold Ms.v at HMP ⊢
          dsimp only at HMP ⊢
          by_cases h4 : r2 ≠ 0
          · rw [if_pos h4]
            dsimp only
            have h8 : ¬ (r2 : Int) = 0 := by omega
            intro S W w L0 hO; simp only [CA] at hO
            ((try clear hf); have hf := fa_ hO)
            go_enter Tryz.func171, Tryz.ntmps171
            go_wp2_with (first | (go_at_call 116; (with_reducible apply Does.use hO (HF); (focus exact tk_); clear hO; intro x9 w9 hO; dsimp only at hO ⊢; simp only [CA] at hO; ((try clear hf); have hf := fa_ hO))) | (go_at_call 172; (with_reducible apply Calls.mono (HMG _); rintro e8 w8 ⟨rfl, hx8⟩; replace hO := hO.ext hx8; clear hx8; dsimp only; ((try clear hf); have hf := fa_ hO))) | (go_at_call 28; (with_reducible apply Does.use hO (HGT); (focus exact tk_); clear hO; intro x9 w9 hO; dsimp only at hO ⊢; simp only [CA] at hO; ((try clear hf); have hf := fa_ hO))) | (go_at_call 178; (with_reducible apply Calls.mono (HMP _); rintro e8 w8 ⟨rfl, hx8⟩; replace hO := hO.ext hx8; clear hx8; dsimp only; ((try clear hf); have hf := fa_ hO))) | ((refine sy_ hO ?_); clear hO; intro w9 hO; (try dsimp only [List.set] at hO); ((try clear hf); have hf := fa_ hO)))
            all_goals try (exfalso; omega; done)
            all_goals try (exfalso; simp_all; done)
            all_goals ((refine bodyPost_run rfl fun K hK => ?_; simp [results, Tryz.results171, go_sem, hf]; refine hK _ ⟨(), ?_, ?_⟩); (focus rfl); (focus ((try simp only [CA]); exact hO.cut sb_)))
          · obtain rfl : r2 = 0 := by omega
            rw [if_neg h4]
            clear h4
            by_cases ht : rt ≠ tries
            · rw [if_pos ht]
              intro S W w L0 hO; simp only [CA] at hO
              ((try clear hf); have hf := fa_ hO)
              go_enter Tryz.func171, Tryz.ntmps171
              go_wp2_with (first | (go_at_call 116; (with_reducible apply Does.use hO (HF); (focus exact tk_); clear hO; intro x9 w9 hO; dsimp only at hO ⊢; simp only [CA] at hO; ((try clear hf); have hf := fa_ hO))) | (go_at_call 172; (with_reducible apply Calls.mono (HMG _); rintro e8 w8 ⟨rfl, hx8⟩; replace hO := hO.ext hx8; clear hx8; dsimp only; ((try clear hf); have hf := fa_ hO))) | (go_at_call 28; (with_reducible apply Does.use hO (HGT); (focus exact tk_); clear hO; intro x9 w9 hO; dsimp only at hO ⊢; simp only [CA] at hO; ((try clear hf); have hf := fa_ hO))) | (go_at_call 178; (with_reducible apply Calls.mono (HMP _); rintro e8 w8 ⟨rfl, hx8⟩; replace hO := hO.ext hx8; clear hx8; dsimp only; ((try clear hf); have hf := fa_ hO))) | ((refine sy_ hO ?_); clear hO; intro w9 hO; (try dsimp only [List.set] at hO); ((try clear hf); have hf := fa_ hO)))
              all_goals try (exfalso; omega; done)
              all_goals try (exfalso; simp_all; done)
              all_goals ((refine bodyPost_run rfl fun K hK => ?_; simp [results, Tryz.results171, go_sem, hf]; refine hK _ ⟨(), ?_, ?_⟩); (focus rfl); (focus ((try simp only [CA]); exact hO.cut sb_)))
            · rw [if_neg ht]
              obtain rfl : rt = tries := by omega
              clear ht
              intro S W w L0 hO; simp only [CA] at hO
              ((try clear hf); have hf := fa_ hO)
              go_enter Tryz.func171, Tryz.ntmps171
              go_wp2_with (first | (go_at_call 116; (with_reducible apply Does.use hO (HF); (focus exact tk_); clear hO; intro x9 w9 hO; dsimp only at hO ⊢; simp only [CA] at hO; ((try clear hf); have hf := fa_ hO))) | (go_at_call 172; (with_reducible apply Calls.mono (HMG _); rintro e8 w8 ⟨rfl, hx8⟩; replace hO := hO.ext hx8; clear hx8; dsimp only; ((try clear hf); have hf := fa_ hO))) | (go_at_call 28; (with_reducible apply Does.use hO (HGT); (focus exact tk_); clear hO; intro x9 w9 hO; dsimp only at hO ⊢; simp only [CA] at hO; ((try clear hf); have hf := fa_ hO))) | (go_at_call 178; (with_reducible apply Calls.mono (HMP _); rintro e8 w8 ⟨rfl, hx8⟩; replace hO := hO.ext hx8; clear hx8; dsimp only; ((try clear hf); have hf := fa_ hO))) | ((refine sy_ hO ?_); clear hO; intro w9 hO; (try dsimp only [List.set] at hO); ((try clear hf); have hf := fa_ hO)))
              all_goals try (exfalso; omega; done)
              all_goals try (exfalso; simp_all; done)
              all_goals ((refine bodyPost_run rfl fun K hK => ?_; simp [results, Tryz.results171, go_sem, hf]; refine hK _ ⟨(), ?_, ?_⟩); (focus rfl); (focus ((try simp only [CA]); exact hO.cut sb_)))
end Go.Proofs.YtmknhibaoopjjaaGreatDoor
namespace Go.Proofs.YtmknhibaoopjjaaGreatDoor
open Go.RowKit
set_option maxHeartbeats 8000000 in
set_option maxRecDepth 100000 in
theorem rack_does (q since : Nat) (ra : Option Addr) (rc : Nat) (rows : List Rw) (C : List Ch) (R : List Sp) (name : ByteArray) (n tries : Int) (hys : ∀ k, (valR rows k).1.size ≤ 100) (hCs : ∀ c ∈ C, c.val.size ≤ 100)
    (hk : name.size ≤ 200) (hrl : rows.length ≤ 100000) (hC : C.length ≤ 300) (hU : Ups C) (hR : R.length ≤ 40) :
    Does Tryz.prog 113 #[.pointer (some ⟨q, 0, none⟩), .string name, .int .i64 n, .int .i64 tries] [RViewR q since ra rc rows C R]
      (fun _ : Unit => (.int .i64 (ackA (valR rows) C R name n tries).1, [RViewR q since ra rc rows (ackA (valR rows) C R name n tries).2 (mineR (valR rows) C R name n tries)])) := by
  have HM := rmine_does q since ra rc rows C R name n tries hys hCs hk hrl hC hR
  have hok := mineA_ok (B := valR rows) (C := C) (R := R) (name := name) (n := n) (tries := tries)
  obtain ⟨he, _⟩ := mineB_eq (valR rows) C R name n tries
  have hms := msgB_size name n.toNat
  have HP := rput_does q since ra rc rows C (mineR (valR rows) C R name n tries) ⟨msgB name n.toNat, ⟨#[]⟩, true⟩ (show (msgB name n.toNat).size ≤ 300 by omega) (show (0 : Nat) ≤ 1000 by omega) (by omega) hU
  rw [he] at HM
  unfold ackA
  generalize (mineB (valR rows) C R name n tries).1 = mB at *
  generalize mineA (valR rows) C R name n tries = m at *
  generalize mineR (valR rows) C R name n tries = R2 at *
  obtain ⟨m1, m2⟩ := m
  obtain ⟨mn, mt, mu, mb⟩ := mB
  unfold Ms.v at HM
  unfold Ch.v at HP
  dsimp only at HM hok HP ⊢
  clear hms he
  by_cases h0 : m2 ≠ 0
  · rw [if_pos h0]
    dsimp only
    clear HP hok
    intro S W w L0 hO; simp only [CA] at hO
    ((try clear hf); have hf := fa_ hO)
    go_enter Tryz.func113, Tryz.ntmps113
    go_wp2_with (first | (go_at_call 171; (with_reducible apply Does.use hO (HM); (focus exact tk_); clear hO; intro x9 w9 hO; dsimp only at hO ⊢; simp only [CA] at hO; ((try clear hf); have hf := fa_ hO))) | ((refine sy_ hO ?_); clear hO; intro w9 hO; (try dsimp only [List.set] at hO); ((try clear hf); have hf := fa_ hO)))
    all_goals try (exfalso; omega; done)
    go_ret
    refine ⟨(), rfl, ?_⟩
    (try simp only [CA])
    exact hO.cut sb_
  · obtain rfl : m2 = 0 := by omega
    rw [if_neg h0]
    obtain ⟨hn0, hn1, _⟩ := hok rfl
    have HMG := fun w => messageKey_any name n w (by omega)
    clear hok h0
    dsimp only
    generalize msgB name n.toNat = k at *
    generalize putL C ⟨k, ⟨#[]⟩, true⟩ = C' at *
    generalize putN C ⟨k, ⟨#[]⟩, true⟩ = N at *
    intro S W w L0 hO; simp only [CA] at hO
    ((try clear hf); have hf := fa_ hO)
    go_enter Tryz.func113, Tryz.ntmps113
    go_wp2_with (first | (go_at_call 171; (with_reducible apply Does.use hO (HM); (focus exact tk_); clear hO; intro x9 w9 hO; dsimp only at hO ⊢; simp only [CA] at hO; ((try clear hf); have hf := fa_ hO))) | (go_at_call 172; (with_reducible apply Calls.mono (HMG _); rintro e8 w8 ⟨rfl, hx8⟩; replace hO := hO.ext hx8; clear hx8; dsimp only; ((try clear hf); have hf := fa_ hO))) | (go_at_call 21; (with_reducible apply Does.use hO (HP); (focus exact tk_); clear hO; intro x9 w9 hO; dsimp only at hO ⊢; simp only [CA] at hO; ((try clear hf); have hf := fa_ hO))) | ((refine sy_ hO ?_); clear hO; intro w9 hO; (try dsimp only [List.set] at hO); ((try clear hf); have hf := fa_ hO)))
    go_ret
    refine ⟨(), rfl, ?_⟩
    (try simp only [CA])
    exact hO.cut sb_
set_option maxHeartbeats 8000000 in
set_option maxRecDepth 100000 in
theorem rwait_does (q since : Nat) (ra : Option Addr) (rc : Nat) (rows : List Rw) (C : List Ch) (R : List Sp) (name : ByteArray) (n tries til : Int) (hys : ∀ k, (valR rows k).1.size ≤ 100) (hCs : ∀ c ∈ C, c.val.size ≤ 100)
    (hk : name.size ≤ 200) (hrl : rows.length ≤ 100000) (hC : C.length ≤ 300) (hU : Ups C) (hR : R.length ≤ 40) :
    Does Tryz.prog 114 #[.pointer (some ⟨q, 0, none⟩), .string name, .int .i64 n, .int .i64 tries, .int .i64 til] [RViewR q since ra rc rows C R]
      (fun _ : Unit => (.int .i64 (waitA (valR rows) C R name n tries til).1, [RViewR q since ra rc rows (waitA (valR rows) C R name n tries til).2 (mineR (valR rows) C R name n tries)])) := by
  have HM := rmine_does q since ra rc rows C R name n tries hys hCs hk hrl hC hR
  have hok := mineA_ok (B := valR rows) (C := C) (R := R) (name := name) (n := n) (tries := tries)
  have HTM := fun w => badTime_any til w
  obtain ⟨he, he2⟩ := mineB_eq (valR rows) C R name n tries
  have hms := msgB_size name n.toNat
  rw [he] at HM
  unfold waitA
  rw [timeN_one]
  generalize (mineB (valR rows) C R name n tries).1 = mB at *
  generalize mineA (valR rows) C R name n tries = m at *
  generalize mineR (valR rows) C R name n tries = R2 at *
  obtain ⟨m1, m2⟩ := m
  dsimp only at HM hok he2 ⊢
  clear he
  by_cases h0 : m2 ≠ 0
  · rw [if_pos h0]
    dsimp only
    obtain ⟨mn, mt, mu, mb⟩ := mB
    unfold Ms.v at HM
    dsimp only at HM
    clear hok he2 HTM hms
    intro S W w L0 hO; simp only [CA] at hO
    ((try clear hf); have hf := fa_ hO)
    go_enter Tryz.func114, Tryz.ntmps114
    go_wp2_with (first | (go_at_call 171; (with_reducible apply Does.use hO (HM); (focus exact tk_); clear hO; intro x9 w9 hO; dsimp only at hO ⊢; simp only [CA] at hO; ((try clear hf); have hf := fa_ hO))) | ((refine sy_ hO ?_); clear hO; intro w9 hO; (try dsimp only [List.set] at hO); ((try clear hf); have hf := fa_ hO)))
    all_goals try (exfalso; omega; done)
    go_ret
    refine ⟨(), rfl, ?_⟩
    (try simp only [CA])
    exact hO.cut sb_
  · obtain rfl : m2 = 0 := by omega
    rw [if_neg h0]
    obtain ⟨hn0, hn1, hn2, _⟩ := hok rfl
    obtain rfl := he2 rfl
    clear hok h0 he2
    cases hb : badT til with
    | true =>
      rw [hb] at HTM
      rw [if_pos (by simp)]
      dsimp only
      obtain ⟨mn, mt, mu, mb⟩ := mB
      unfold Ms.v at HM
      dsimp only at HM
      clear hms hn2
      intro S W w L0 hO; simp only [CA] at hO
      ((try clear hf); have hf := fa_ hO)
      go_enter Tryz.func114, Tryz.ntmps114
      go_wp2_with (first | (go_at_call 171; (with_reducible apply Does.use hO (HM); (focus exact tk_); clear hO; intro x9 w9 hO; dsimp only at hO ⊢; simp only [CA] at hO; ((try clear hf); have hf := fa_ hO))) | (go_at_call 168; (with_reducible apply Calls.mono (HTM _); rintro e8 w8 ⟨rfl, rfl⟩; dsimp only)) | ((refine sy_ hO ?_); clear hO; intro w9 hO; (try dsimp only [List.set] at hO); ((try clear hf); have hf := fa_ hO)))
      go_ret
      refine ⟨(), rfl, ?_⟩
      (try simp only [CA])
      exact hO.cut sb_
    | false =>
      rw [hb] at HTM
      rw [if_neg (by simp)]
      have HMT := fun w => rmtxt_any (mB.till til) w
      have hts := (mB.till til).txt_size
      have HMG := fun w => messageKey_any name n w (by omega)
      unfold setN setL
      rw [show (mB.till til).num = n from hn2]
      generalize hmt : (mB.till til).txt = t at *
      clear hmt
      obtain ⟨t1, t2⟩ := t
      obtain ⟨mn, mt, mu, mb⟩ := mB
      unfold Ms.v at HM HMT
      unfold Ms.till at HMT
      dsimp only at *
      have HP := rput_does q since ra rc rows C R2 ⟨msgB name n.toNat, t1, false⟩ (show (msgB name n.toNat).size ≤ 300 by omega) (show t1.size ≤ 1000 by omega) (by omega) hU
      unfold Ch.v at HP
      dsimp only at HP
      clear hn2 hms
      generalize msgB name n.toNat = k at *
      by_cases h4 : t2 ≠ 0
      · rw [if_pos h4, if_pos h4]
        clear HP
        intro S W w L0 hO; simp only [CA] at hO
        ((try clear hf); have hf := fa_ hO)
        go_enter Tryz.func114, Tryz.ntmps114
        go_wp2_with (first | (go_at_call 171; (with_reducible apply Does.use hO (HM); (focus exact tk_); clear hO; intro x9 w9 hO; dsimp only at hO ⊢; simp only [CA] at hO; ((try clear hf); have hf := fa_ hO))) | (go_at_call 168; (with_reducible apply Calls.mono (HTM _); rintro e8 w8 ⟨rfl, rfl⟩; dsimp only)) | (go_at_call 173; (with_reducible apply Calls.mono (HMT _); rintro e8 w8 ⟨rfl, hx8⟩; replace hO := hO.ext hx8; clear hx8; dsimp only; ((try clear hf); have hf := fa_ hO))) | ((refine sy_ hO ?_); clear hO; intro w9 hO; (try dsimp only [List.set] at hO); ((try clear hf); have hf := fa_ hO)))
        all_goals try (exfalso; omega; done)
        go_ret
        refine ⟨(), rfl, ?_⟩
        (try simp only [CA])
        exact hO.cut sb_
      · obtain rfl : t2 = 0 := by omega
        rw [if_neg h4, if_neg h4]
        clear h4
        generalize putL C ⟨k, t1, false⟩ = C' at *
        generalize putN C ⟨k, t1, false⟩ = N at *
        intro S W w L0 hO; simp only [CA] at hO
        ((try clear hf); have hf := fa_ hO)
        go_enter Tryz.func114, Tryz.ntmps114
        go_wp2_with (first | (go_at_call 171; (with_reducible apply Does.use hO (HM); (focus exact tk_); clear hO; intro x9 w9 hO; dsimp only at hO ⊢; simp only [CA] at hO; ((try clear hf); have hf := fa_ hO))) | (go_at_call 168; (with_reducible apply Calls.mono (HTM _); rintro e8 w8 ⟨rfl, rfl⟩; dsimp only)) | (go_at_call 173; (with_reducible apply Calls.mono (HMT _); rintro e8 w8 ⟨rfl, hx8⟩; replace hO := hO.ext hx8; clear hx8; dsimp only; ((try clear hf); have hf := fa_ hO))) | (go_at_call 172; (with_reducible apply Calls.mono (HMG _); rintro e8 w8 ⟨rfl, hx8⟩; replace hO := hO.ext hx8; clear hx8; dsimp only; ((try clear hf); have hf := fa_ hO))) | (go_at_call 21; (with_reducible apply Does.use hO (HP); (focus exact tk_); clear hO; intro x9 w9 hO; dsimp only at hO ⊢; simp only [CA] at hO; ((try clear hf); have hf := fa_ hO))) | ((refine sy_ hO ?_); clear hO; intro w9 hO; (try dsimp only [List.set] at hO); ((try clear hf); have hf := fa_ hO)))
        go_ret
        refine ⟨(), rfl, ?_⟩
        (try simp only [CA])
        exact hO.cut sb_
end Go.Proofs.YtmknhibaoopjjaaGreatDoor
