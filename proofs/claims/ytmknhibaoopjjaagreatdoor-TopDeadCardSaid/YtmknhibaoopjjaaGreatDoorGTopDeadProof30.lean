/- Texts Q7, Q8, Q9, Q12, Q13, Q14, Recv, Q20, Q19, Q21, Sym, Q24, Sym2, Sym3, QC, Sym4, Sym5, TopDead of this claim, laid together. -/
import Derived.Test.YtmknhibaoopjjaaGreatDoorGTopDeadProof29
import Derived.Laws.RangeString
import Derived.Test.YtmknhibaoopjjaaGreatDoorGTopDeadProof19
set_option linter.unusedVariables false
set_option linter.unusedSimpArgs false
namespace Go.Proofs.YtmknhibaoopjjaaGreatDoor
open Go.RowKit
noncomputable def createA (B : ByteArray → ByteArray × Bool) (C : List Ch) (R : List Sp) (name : ByteArray) (tries : Int) (dead : ByteArray) : Nat × List Ch × List Sp :=
  if (findN (B (queB name)) C R name).2 = 0 then (6, C, findR C R name) else if (findN (B (queB name)) C R name).2 ≠ 5 then ((findN (B (queB name)) C R name).2, C, findR C R name)
  else if dead = name then (3, C, findR C R name)
  else if dead = ⟨#[]⟩ then (putqN C name ⟨0, tries, dead⟩, putqL C name ⟨0, tries, dead⟩, findR C R name)
  else if (findN (B (queB dead)) C (findR C R name) dead).2 ≠ 0 then ((findN (B (queB dead)) C (findR C R name) dead).2, C, findR C (findR C R name) dead)
  else (putqN C name ⟨0, tries, dead⟩, putqL C name ⟨0, tries, dead⟩, findR C (findR C R name) dead)
theorem errV_is (n : Nat) : (n = 0 ∧ errV n = .nilIface) ∨ ∃ M : Int, M = n ∧ n ≠ 0 ∧ errV n = .iface 127 (.int .i64 M) := by
  cases n with
  | zero => exact .inl ⟨rfl, rfl⟩
  | succ n => exact .inr ⟨((n + 1 : Nat) : Int), rfl, by omega, rfl⟩
@[go_sem] theorem run_neq_err (a b : Int) (w : World) : (binOp .neq 42 (.iface 127 (.int .i64 a)) (.iface 127 (.int .i64 b))).run Tryz.prog w = .ok (.bool (!(a == b))) w := by kernel_rfl
theorem getB_len {C : List Ch} {R : List Sp} {k : ByteArray} (h : R.length ≤ 40) : (getB C R k).length ≤ 40 := by
  unfold getB
  split
  · exact h
  · split
    · exact h
    · exact noteR_len _ h
theorem findR_len {C : List Ch} {R : List Sp} {k : ByteArray} (h : R.length ≤ 40) : (findR C R k).length ≤ 40 := by
  unfold findR
  split
  · exact h
  · exact getB_len h
set_option maxHeartbeats 8000000 in
set_option maxRecDepth 100000 in
theorem qCreate_does (q p since nn : Nat) (V : List (ByteArray × List Vn)) (B : ByteArray → ByteArray × Bool) (C : List Ch) (R : List Sp) (name : ByteArray) (tries : Int) (dead : ByteArray) (hy : ∀ k, readV V k since = B k) (hys : ∀ k, (B k).1.size ≤ 100) (hCs : ∀ c ∈ C, c.val.size ≤ 100)
    (hk : name.size ≤ 200) (hdk : dead.size ≤ 200) (hC : C.length ≤ 700) (hU : Ups C) (hR : R.length ≤ 40) (hV : ∀ e ∈ V, e.2.length ≤ 1000000) {φ : World → Prop} (hφ : ∀ w, φ w → LibOk w) :
    Does Tryz.prog 54 #[.pointer (some ⟨q, 0, none⟩), .string name, .int .i64 tries, .string dead] [ViewR q p since C R, VerR p nn V, .imm φ]
      (fun _ : Unit => (errV (createA B C R name tries dead).1, [ViewR q p since (createA B C R name tries dead).2.1 (createA B C R name tries dead).2.2, VerR p nn V, .imm φ])) := by
  have HF := qFind_does q p since nn V C R name _ (hy _) (hys _) hCs hk (by omega) hU hR hV hφ
  have hR2 := findR_len (C := C) (k := name) hR
  have HF2 := qFind_does q p since nn V C (findR C R name) dead _ (hy _) (hys _) hCs hdk (by omega) hU hR2 hV hφ
  have hok := findN_ok (y := B (queB dead)) (C := C) (R := findR C R name) (name := dead)
  have hPT := fun R' (h : dead.size ≤ 50) => qPut_does q p since C R' name ⟨0, tries, dead⟩ h hk (by omega) hU hφ
  unfold createA
  generalize findN (B (queB name)) C R name = f at *
  generalize findN (B (queB dead)) C (findR C R name) dead = g at *
  generalize findR C (findR C R name) dead = R2 at *
  generalize findR C R name = R1 at *
  obtain ⟨⟨un, ut, ud⟩, f2⟩ := f
  obtain ⟨⟨gn, gt, gd⟩, g2⟩ := g
  unfold Qu.v at HF HF2 hPT
  dsimp only at HF HF2 hPT hok ⊢
  rcases errV_is f2 with ⟨h0, e⟩ | ⟨M, hM, h0, e⟩
  · rw [e] at HF
    rw [if_pos h0, show errV 6 = .iface 127 (.int .i64 6) from rfl]
    clear HF2 hPT hok h0 e
    intro S W w L0 hO; simp only [CA] at hO
    ((try clear hf); have hf := fa_ hO)
    go_enter Tryz.func54, Tryz.ntmps54
    go_wp2_with (first | (go_at_call 115; (with_reducible apply Does.use hO (HF); (focus exact tk_); clear hO; intro x9 w9 hO; dsimp only at hO ⊢; simp only [CA] at hO; ((try clear hf); have hf := fa_ hO))) | ((refine sy_ hO ?_); clear hO; intro w9 hO; (try dsimp only [List.set] at hO); ((try clear hf); have hf := fa_ hO)))
    go_ret
    refine ⟨(), rfl, ?_⟩
    (try simp only [CA])
    exact hO.cut sb_
  · rw [e] at HF
    rw [if_neg h0]
    by_cases h5 : f2 ≠ 5
    · rw [if_pos h5]
      dsimp only
      rw [e]
      have hM5 : ¬ M = 5 := by omega
      have hM6 : (M == 5) = false := by simpa using hM5
      clear HF2 hPT hok h0 e h5 hM
      intro S W w L0 hO; simp only [CA] at hO
      ((try clear hf); have hf := fa_ hO)
      go_enter Tryz.func54, Tryz.ntmps54
      go_wp2_with (first | (go_at_call 115; (with_reducible apply Does.use hO (HF); (focus exact tk_); clear hO; intro x9 w9 hO; dsimp only at hO ⊢; simp only [CA] at hO; ((try clear hf); have hf := fa_ hO))) | ((refine sy_ hO ?_); clear hO; intro w9 hO; (try dsimp only [List.set] at hO); ((try clear hf); have hf := fa_ hO)))
      all_goals try (exfalso; omega; done)
      go_ret
      refine ⟨(), rfl, ?_⟩
      (try simp only [CA])
      exact hO.cut sb_
    · rw [if_neg h5]
      obtain rfl : M = 5 := by omega
      clear e h0 h5 hM
      by_cases hdn : dead = name
      · subst hdn
        rw [if_pos rfl, show errV 3 = .iface 127 (.int .i64 3) from rfl]
        clear HF2 hPT hok
        intro S W w L0 hO; simp only [CA] at hO
        ((try clear hf); have hf := fa_ hO)
        go_enter Tryz.func54, Tryz.ntmps54
        go_wp2_with (first | (go_at_call 115; (with_reducible apply Does.use hO (HF); (focus exact tk_); clear hO; intro x9 w9 hO; dsimp only at hO ⊢; simp only [CA] at hO; ((try clear hf); have hf := fa_ hO))) | ((refine sy_ hO ?_); clear hO; intro w9 hO; (try dsimp only [List.set] at hO); ((try clear hf); have hf := fa_ hO)))
        all_goals try (exfalso; omega; done)
        go_ret
        refine ⟨(), rfl, ?_⟩
        (try simp only [CA])
        exact hO.cut sb_
      · rw [if_neg hdn]
        have h1 : ¬ dead.toList = name.toList := fun h => hdn (toList_inj h)
        have h2 : (dead.toList == name.toList) = false := by simpa using h1
        by_cases hd0 : dead = ⟨#[]⟩
        · rw [if_pos hd0]
          have HPT := hPT R1 (by rw [hd0]; exact Nat.zero_le _)
          have h3 : dead.toList = [] := by rw [hd0, ByteArray.toList_eq]
          clear HF2 hPT hok hdn hd0
          dsimp only
          generalize putqL C name ⟨0, tries, dead⟩ = C' at *
          generalize errV (putqN C name ⟨0, tries, dead⟩) = ev at *
          intro S W w L0 hO; simp only [CA] at hO
          ((try clear hf); have hf := fa_ hO)
          go_enter Tryz.func54, Tryz.ntmps54
          go_wp2_with (first | (go_at_call 115; (with_reducible apply Does.use hO (HF); (focus exact tk_); clear hO; intro x9 w9 hO; dsimp only at hO ⊢; simp only [CA] at hO; ((try clear hf); have hf := fa_ hO))) | (go_at_call 122; (with_reducible apply Does.use hO (HPT); (focus exact tk_); clear hO; intro x9 w9 hO; dsimp only at hO ⊢; simp only [CA] at hO; ((try clear hf); have hf := fa_ hO))) | ((refine sy_ hO ?_); clear hO; intro w9 hO; (try dsimp only [List.set] at hO); ((try clear hf); have hf := fa_ hO)))
          all_goals try (exfalso; simp_all; done)
          go_ret
          refine ⟨(), rfl, ?_⟩
          (try simp only [CA])
          exact hO.cut sb_
        · rw [if_neg hd0]
          have h3 : ¬ dead.toList = [] := fun h => hd0 (toList_inj (h.trans (by rw [ByteArray.toList_eq])))
          clear hdn hd0
          rcases errV_or g2 with ⟨hg, e⟩ | ⟨M, hg, e⟩
          · rw [e] at HF2
            rw [if_neg (by omega)]
            have hdz := (hok hg).2.2.2.2.2.1
            have HPT := hPT R2 (by omega)
            clear hPT hok e hg
            dsimp only
            generalize putqL C name ⟨0, tries, dead⟩ = C' at *
            generalize errV (putqN C name ⟨0, tries, dead⟩) = ev at *
            intro S W w L0 hO; simp only [CA] at hO
            ((try clear hf); have hf := fa_ hO)
            go_enter Tryz.func54, Tryz.ntmps54
            go_wp2_with (first | (go_at_call 115; (with_reducible apply Does.use hO (HF); (focus exact tk_); clear hO; intro x9 w9 hO; dsimp only at hO ⊢; simp only [CA] at hO; ((try clear hf); have hf := fa_ hO))) | (go_at_call 115; (with_reducible apply Does.use hO (HF2); (focus exact tk_); clear hO; intro x9 w9 hO; dsimp only at hO ⊢; simp only [CA] at hO; ((try clear hf); have hf := fa_ hO))) | (go_at_call 122; (with_reducible apply Does.use hO (HPT); (focus exact tk_); clear hO; intro x9 w9 hO; dsimp only at hO ⊢; simp only [CA] at hO; ((try clear hf); have hf := fa_ hO))) | ((refine sy_ hO ?_); clear hO; intro w9 hO; (try dsimp only [List.set] at hO); ((try clear hf); have hf := fa_ hO)))
            all_goals try (exfalso; simp_all; done)
            go_ret
            refine ⟨(), rfl, ?_⟩
            (try simp only [CA])
            exact hO.cut sb_
          · rw [e] at HF2
            rw [if_pos hg]
            dsimp only
            rw [e]
            clear hPT hok e hg
            intro S W w L0 hO; simp only [CA] at hO
            ((try clear hf); have hf := fa_ hO)
            go_enter Tryz.func54, Tryz.ntmps54
            go_wp2_with (first | (go_at_call 115; (with_reducible apply Does.use hO (HF); (focus exact tk_); clear hO; intro x9 w9 hO; dsimp only at hO ⊢; simp only [CA] at hO; ((try clear hf); have hf := fa_ hO))) | (go_at_call 115; (with_reducible apply Does.use hO (HF2); (focus exact tk_); clear hO; intro x9 w9 hO; dsimp only at hO ⊢; simp only [CA] at hO; ((try clear hf); have hf := fa_ hO))) | ((refine sy_ hO ?_); clear hO; intro w9 hO; (try dsimp only [List.set] at hO); ((try clear hf); have hf := fa_ hO)))
            all_goals try (exfalso; simp_all; done)
            go_ret
            refine ⟨(), rfl, ?_⟩
            (try simp only [CA])
            exact hO.cut sb_
end Go.Proofs.YtmknhibaoopjjaaGreatDoor
namespace Go.Proofs.YtmknhibaoopjjaaGreatDoor
open Go.RowKit
noncomputable def setN (C : List Ch) (name : ByteArray) (m : Ms) : Nat := if m.txt.2 ≠ 0 then m.txt.2 else putN C ⟨msgB name m.num.toNat, m.txt.1, false⟩
noncomputable def setL (C : List Ch) (name : ByteArray) (m : Ms) : List Ch := if m.txt.2 ≠ 0 then C else putL C ⟨msgB name m.num.toNat, m.txt.1, false⟩
set_option maxHeartbeats 4000000 in
set_option maxRecDepth 100000 in
theorem qset_does (q p since : Nat) (C : List Ch) (R : List Sp) (name : ByteArray) (m : Ms) (hm : m.num ≤ 999999) (hk : name.size ≤ 200) (hC : C.length ≤ 800) (hU : Ups C) {φ : World → Prop} (hφ : ∀ w, φ w → LibOk w) :
    Does Tryz.prog 131 #[.pointer (some ⟨q, 0, none⟩), .string name, m.v] [ViewR q p since C R, .imm φ] (fun _ : Unit => (errV (setN C name m), [ViewR q p since (setL C name m) R, .imm φ])) := by
  have HMT := fun w h => mtxt_any m w h
  have HMG := fun w h => message_any name m.num w (by omega) h (by omega)
  have hts := m.txt_size
  have hms := msgB_size name m.num.toNat
  unfold setN setL
  generalize m.txt = t at *
  obtain ⟨t1, t2⟩ := t
  dsimp only at HMT hts ⊢
  have HP := vPut_does q p since C R (msgB name m.num.toNat) t1 (by omega) (by omega) hC hU hφ
  obtain ⟨mn, mt, mu, mb⟩ := m
  unfold Ms.v at HMT ⊢
  dsimp only at *
  generalize msgB name mn.toNat = k at *
  rcases errV_or t2 with ⟨h0, e⟩ | ⟨M, h0, e⟩
  · rw [e] at HMT
    rw [if_neg (by omega), if_neg (by omega)]
    clear e h0
    generalize putL C ⟨k, t1, false⟩ = C' at *
    generalize errV (putN C ⟨k, t1, false⟩) = ev at *
    intro S W w L0 hO; simp only [CA] at hO
    ((try clear hf); have hf := fa_ hO)
    go_enter Tryz.func131, Tryz.ntmps131
    go_wp2_with (first | (go_at_call 182; (with_reducible apply Calls.mono (HMT _ (hφ _ (Own.immOf (φ := φ) hO pk_))); rintro e8 w8 ⟨rfl, hx8⟩; replace hO := hO.ext hx8; clear hx8; dsimp only; ((try clear hf); have hf := fa_ hO))) | (go_at_call 129; (with_reducible apply Calls.mono (HMG _ (hφ _ (Own.immOf (φ := φ) hO pk_))); rintro e8 w8 ⟨rfl, hx8⟩; replace hO := hO.ext hx8; clear hx8; dsimp only; ((try clear hf); have hf := fa_ hO))) | (go_at_call 20; (with_reducible apply Does.use hO (HP); (focus exact tk_); clear hO; intro x9 w9 hO; dsimp only at hO ⊢; simp only [CA] at hO; ((try clear hf); have hf := fa_ hO))) | ((refine sy_ hO ?_); clear hO; intro w9 hO; (try dsimp only [List.set] at hO); ((try clear hf); have hf := fa_ hO)))
    go_ret
    refine ⟨(), rfl, ?_⟩
    (try simp only [CA])
    exact hO.cut sb_
  · rw [e] at HMT
    rw [if_pos h0, if_pos h0, e]
    clear HP e h0
    intro S W w L0 hO; simp only [CA] at hO
    ((try clear hf); have hf := fa_ hO)
    go_enter Tryz.func131, Tryz.ntmps131
    go_wp2_with (first | (go_at_call 182; (with_reducible apply Calls.mono (HMT _ (hφ _ (Own.immOf (φ := φ) hO pk_))); rintro e8 w8 ⟨rfl, hx8⟩; replace hO := hO.ext hx8; clear hx8; dsimp only; ((try clear hf); have hf := fa_ hO))) | ((refine sy_ hO ?_); clear hO; intro w9 hO; (try dsimp only [List.set] at hO); ((try clear hf); have hf := fa_ hO)))
    go_ret
    refine ⟨(), rfl, ?_⟩
    (try simp only [CA])
    exact hO.cut sb_
end Go.Proofs.YtmknhibaoopjjaaGreatDoor
namespace Go.Proofs.YtmknhibaoopjjaaGreatDoor
open Go.RowKit
end Go.Proofs.YtmknhibaoopjjaaGreatDoor
namespace Go.Proofs.YtmknhibaoopjjaaGreatDoor
open Go.RowKit
/-- The first j digits of six. -/
def numP (n : Nat) : Nat → Nat
  | 0 => 0
  | 1 => n / 100000
  | 2 => n / 10000
  | 3 => n / 1000
  | 4 => n / 100
  | 5 => n / 10
  | _ => n
def numD (n : Nat) : Nat → Nat
  | 0 => n / 100000 % 10
  | 1 => n / 10000 % 10
  | 2 => n / 1000 % 10
  | 3 => n / 100 % 10
  | 4 => n / 10 % 10
  | _ => n % 10
theorem numP_next {n j : Nat} (hn : n < 1000000) (hj : j < 6) : numP n (j + 1) = 10 * numP n j + numD n j ∧ numD n j < 10 ∧ numP n j < 1000000 := by
  match j, hj with
  | 0, _ => simp only [numP, numD]; omega
  | 1, _ => simp only [numP, numD]; omega
  | 2, _ => simp only [numP, numD]; omega
  | 3, _ => simp only [numP, numD]; omega
  | 4, _ => simp only [numP, numD]; omega
  | 5, _ => simp only [numP, numD]; omega
theorem msgB_at (a : ByteArray) {n j : Nat} (hn : n < 1000000) (hj : j < 6) (h : a.size + 3 + j < (msgB a n).size) : (msgB a n)[a.size + 3 + j] = d8 (numD n j) := by
  have e : (msgB a n).data.toList = (109 :: 47 :: (a.data.toList ++ [47])) ++ esix n := by
    unfold msgB
    rw [app_data, app_data, app_data, app_data, show (six n).data.toList = esix (n % 1000000) from rfl, Nat.mod_eq_of_lt hn]
    simp only [List.append_assoc]
    show [109] ++ ([47] ++ (a.data.toList ++ ([47] ++ esix n))) = _
    simp only [List.cons_append, List.nil_append, List.append_assoc]
  have hl : (109 :: 47 :: (a.data.toList ++ [47]) : List UInt8).length = a.size + 3 := by
    simp only [List.length_cons, List.length_append, List.length_nil, Array.length_toList]; rfl
  have e2 : (msgB a n).data.toList[a.size + 3 + j]? = (esix n)[j]? := by
    rw [e, List.getElem?_append_right (by omega), hl, Nat.add_sub_cancel_left]
  have e3 : (msgB a n).data.toList[a.size + 3 + j]? = some (msgB a n)[a.size + 3 + j] := by
    rw [Array.getElem?_toList]
    exact Array.getElem?_eq_getElem h
  rw [e3] at e2
  have e4 : (esix n)[j]? = some (d8 (numD n j)) := by
    match j, hj with
    | 0, _ => rfl
    | 1, _ => rfl
    | 2, _ => rfl
    | 3, _ => rfl
    | 4, _ => rfl
    | 5, _ => rfl
  rw [e4] at e2
  injection e2
end Go.Proofs.YtmknhibaoopjjaaGreatDoor
namespace Go.Proofs.YtmknhibaoopjjaaGreatDoor
open Go.RowKit
theorem Ext.iter {a w : World} (h : Ext a w) (s : ByteArray) (pos : Nat) : Ext a (w.iter s pos) := h.alloc _
/-- The number in a message's key. -/
def numO (k : ByteArray) : Nat := valL (k.data.toList.drop (k.size - 6))
theorem valL_six {n : Nat} (hn : n < 1000000) : valL (esix n) = n := by
  unfold valL esix
  simp only [List.foldl_cons, List.foldl_nil]
  rw [d8_toNat _ (by omega), d8_toNat _ (by omega), d8_toNat _ (by omega), d8_toNat _ (by omega), d8_toNat _ (by omega), d8_toNat _ (by omega)]
  omega
theorem numO_msg (a : ByteArray) {n : Nat} (hn : n < 1000000) : numO (msgB a n) = n := by
  have e : (msgB a n).data.toList = (109 :: 47 :: (a.data.toList ++ [47])) ++ esix n := by
    unfold msgB
    rw [app_data, app_data, app_data, app_data, show (six n).data.toList = esix (n % 1000000) from rfl, Nat.mod_eq_of_lt hn]
    simp only [List.append_assoc]
    show [109] ++ ([47] ++ (a.data.toList ++ ([47] ++ esix n))) = _
    simp only [List.cons_append, List.nil_append, List.append_assoc]
  have hl : (109 :: 47 :: (a.data.toList ++ [47]) : List UInt8).length = a.size + 3 := by
    simp only [List.length_cons, List.length_append, List.length_nil, Array.length_toList]; rfl
  unfold numO
  rw [e, msgB_size, show a.size + 9 - 6 = a.size + 3 from rfl, ← hl, List.drop_left]
  exact valL_six hn
end Go.Proofs.YtmknhibaoopjjaaGreatDoor
namespace Go.Proofs.YtmknhibaoopjjaaGreatDoor
open Go.RowKit
def posOf (w : World) (b : Nat) : Nat := match w.heap[b]? with | some (.stringIter _ p) => p | _ => 0
theorem posOf_iter (w : World) (s : ByteArray) (p : Nat) : posOf (w.iter s p) w.heap.size = p := by unfold posOf; rw [World.iter_heap]
set_option maxHeartbeats 8000000 in
set_option maxRecDepth 100000 in
theorem first_none (q p since nn : Nat) (V : List (ByteArray × List Vn)) (C : List Ch) (R : List Sp) (name frm lo hi : ByteArray) (L : List Rw) (hlo : (if slt (loB name) frm then frm else loB name) = lo) (hhi : hiB name = hi) (hL : (inC lo hi C).foldl appR (scanV V (hasB lo hi) since) = L)
    (hnd : (V.map (·.1)).Nodup) (hC : C.length ≤ 1000) (hR : R.length ≤ 40) (hVl : V.length ≤ 50000) (hV : ∀ e ∈ V, e.2.length ≤ 100000) (hks : ∀ r ∈ L, r.key.size ≤ 300) (hk : name.size ≤ 200) (h1 : scnN L R lo hi 1 ≠ 0) :
    Does Tryz.prog 128 #[.pointer (some ⟨q, 0, none⟩), .string name, .string frm] [ViewR q p since C R, VerR p nn V]
      (fun _ : Unit => (.tuple #[Ms.z.v, .bool false, errV (scnN L R lo hi 1)], [ViewR q p since C (scnB L R lo hi 1), VerR p nn V])) := by
  have HMS := fun w => messages_any name w (by omega)
  have HSC := vwScan_does q p since nn V C R lo hi 1 L hL hnd hC hR hVl hV hks
  have e1 : scnO L R lo hi 1 = [] := by unfold scnO; rw [if_neg h1]
  rw [e1] at HSC
  rw [hhi] at HMS
  unfold Ms.v Ms.z
  dsimp only [List.length_nil, List.flatMap_nil] at HSC ⊢
  have hl2 : (if Op.bytesLess (loB name).toList frm.toList = true then frm else loB name) = lo := hlo
  generalize loB name = l0 at *
  generalize scnB L R lo hi 1 = R2 at *
  rcases errV_or (scnN L R lo hi 1) with ⟨h0, e⟩ | ⟨M, h0, e⟩
  · exact absurd h0 h1
  · rw [e] at HSC ⊢
    clear e h0 h1 e1 hlo hhi hL hnd hVl hV hks
    intro S W w L0 hO; simp only [CA] at hO
    ((try clear hf); have hf := fa_ hO)
    go_enter Tryz.func128, Tryz.ntmps128
    go_wp2_with (first | (go_at_call 132; (with_reducible apply Calls.mono (HMS _); rintro e8 w8 ⟨rfl, hx8⟩; replace hO := hO.ext hx8; clear hx8; dsimp only; ((try clear hf); have hf := fa_ hO))) | (go_at_call 23; (with_reducible apply Does.use hO (HSC); (focus exact tk_); clear hO; intro x9 w9 hO; dsimp only at hO ⊢; simp only [CA] at hO; ((try clear hf); have hf := fa_ hO); (obtain ⟨za, zc⟩ := x9; dsimp only at hO ⊢; ((try clear hf); have hf := fa_ hO)))) | ((refine sy_ hO ?_); clear hO; intro w9 hO; (try dsimp only [List.set] at hO); ((try clear hf); have hf := fa_ hO)))
    (refine bodyPost_run rfl fun K hK => ?_; simp [results, Tryz.results128, go_sem, hf]; refine hK _ ⟨(), ?_, ?_⟩)
    · rfl
    · (try simp only [CA])
      exact hO.cut sb_
set_option maxHeartbeats 8000000 in
set_option maxRecDepth 100000 in
theorem first_empty (q p since nn : Nat) (V : List (ByteArray × List Vn)) (C : List Ch) (R : List Sp) (name frm lo hi : ByteArray) (hlo : (if slt (loB name) frm then frm else loB name) = lo) (hhi : hiB name = hi) (hL : (inC lo hi C).foldl appR (scanV V (hasB lo hi) since) = [])
    (hnd : (V.map (·.1)).Nodup) (hC : C.length ≤ 1000) (hR : R.length ≤ 40) (hVl : V.length ≤ 50000) (hV : ∀ e ∈ V, e.2.length ≤ 100000) (hk : name.size ≤ 200) (h1 : scnN [] R lo hi 1 = 0) :
    Does Tryz.prog 128 #[.pointer (some ⟨q, 0, none⟩), .string name, .string frm] [ViewR q p since C R, VerR p nn V]
      (fun _ : Unit => (.tuple #[Ms.z.v, .bool false, .nilIface], [ViewR q p since C (scnB [] R lo hi 1), VerR p nn V])) := by
  have HMS := fun w => messages_any name w (by omega)
  have HSC := vwScan_does q p since nn V C R lo hi 1 [] hL hnd hC hR hVl hV (fun _ h => nomatch h)
  have e1 : scnO [] R lo hi 1 = [] := by unfold scnO; rw [if_pos h1]; rfl
  rw [e1, h1] at HSC
  rw [hhi] at HMS
  unfold Ms.v Ms.z
  dsimp only [List.length_nil, List.flatMap_nil] at HSC ⊢
  rw [show errV 0 = .nilIface from rfl] at HSC
  have hl2 : (if Op.bytesLess (loB name).toList frm.toList = true then frm else loB name) = lo := hlo
  generalize loB name = l0 at *
  generalize scnB [] R lo hi 1 = R2 at *
  clear h1 e1 hlo hhi hL hnd hVl hV
  intro S W w L0 hO; simp only [CA] at hO
  ((try clear hf); have hf := fa_ hO)
  go_enter Tryz.func128, Tryz.ntmps128
  go_wp2_with (first | (go_at_call 132; (with_reducible apply Calls.mono (HMS _); rintro e8 w8 ⟨rfl, hx8⟩; replace hO := hO.ext hx8; clear hx8; dsimp only; ((try clear hf); have hf := fa_ hO))) | (go_at_call 23; (with_reducible apply Does.use hO (HSC); (focus exact tk_); clear hO; intro x9 w9 hO; dsimp only at hO ⊢; simp only [CA] at hO; ((try clear hf); have hf := fa_ hO); (obtain ⟨za, zc⟩ := x9; dsimp only at hO ⊢; ((try clear hf); have hf := fa_ hO)))) | ((refine sy_ hO ?_); clear hO; intro w9 hO; (try dsimp only [List.set] at hO); ((try clear hf); have hf := fa_ hO)))
  (refine bodyPost_run rfl fun K hK => ?_; simp [results, Tryz.results128, go_sem, hf]; refine hK _ ⟨(), ?_, ?_⟩)
  · rfl
  · (try simp only [CA])
    exact hO.cut sb_
set_option maxHeartbeats 8000000 in
set_option maxRecDepth 100000 in
theorem first_some (q p since nn n : Nat) (V : List (ByteArray × List Vn)) (C : List Ch) (R : List Sp) (name frm lo hi v : ByteArray) (t : List Rw) (hlo : (if slt (loB name) frm then frm else loB name) = lo) (hhi : hiB name = hi) (hL : (inC lo hi C).foldl appR (scanV V (hasB lo hi) since) = ⟨msgB name n, v⟩ :: t)
    (hnd : (V.map (·.1)).Nodup) (hC : C.length ≤ 1000) (hR : R.length ≤ 40) (hVl : V.length ≤ 50000) (hV : ∀ e ∈ V, e.2.length ≤ 100000) (hk : name.size ≤ 200) (hks : ∀ r ∈ (⟨msgB name n, v⟩ :: t : List Rw), r.key.size ≤ 300) (h1 : scnN (⟨msgB name n, v⟩ :: t) R lo hi 1 = 0) (hn : n < 1000000) (hv : v.size ≤ 100) {φ : World → Prop} (hφ : ∀ w, φ w → LibOk w) :
    Does Tryz.prog 128 #[.pointer (some ⟨q, 0, none⟩), .string name, .string frm] [ViewR q p since C R, VerR p nn V, .imm φ]
      (fun _ : Unit => (.tuple #[(msOf n v).1.v, .bool (decide ((msOf n v).2 = 0)), errV (msOf n v).2], [ViewR q p since C (scnB (⟨msgB name n, v⟩ :: t) R lo hi 1), VerR p nn V, .imm φ])) := by
  have HMS := fun w => messages_any name w (by omega)
  have HMP := fun w h => mpar_any (numP n 6 : Nat) v hv w h
  rw [show msOf (n : Int) v = msOf ((numP n 6 : Nat) : Int) v from rfl]
  generalize msOf ((numP n 6 : Nat) : Int) v = m at *
  obtain ⟨⟨ma, mb, mc, md⟩, m2⟩ := m
  unfold Ms.v at HMP ⊢
  dsimp only at HMP ⊢
  have hm2 : errV m2 = .nilIface ∧ decide (m2 = 0) = true ∨ ∃ M, errV m2 = .iface 127 (.int .i64 M) ∧ decide (m2 = 0) = false := by
    rcases errV_or m2 with ⟨h0, e⟩ | ⟨M, h0, e⟩
    · exact .inl ⟨e, by simp [h0]⟩
    · exact .inr ⟨M, e, by simp [h0]⟩
  generalize errV m2 = ev at *
  generalize decide (m2 = 0) = bv at *
  have hev := Lib.hid hm2
  clear hm2
  have HSC := vwScan_does q p since nn V C R lo hi 1 _ hL hnd hC hR hVl hV hks
  have e1 : scnO (⟨msgB name n, v⟩ :: t) R lo hi 1 = [⟨msgB name n, v⟩] := by unfold scnO; rw [if_pos h1]; rfl
  rw [e1, h1] at HSC
  have hhs : hi.size = name.size + 3 := by
    rw [← hhi]
    unfold hiB
    simp only [ByteArray.size_append]
    show 1 + 1 + (name.size + 1) = _
    omega
  have hks2 : hi.size ≤ 203 ∧ name.size + 3 ≤ hi.size ∧ hi.size ≤ name.size + 3 := by omega
  obtain ⟨hs1, hs2, hs3⟩ := hks2
  replace hhs := Lib.hid hhs
  rw [hhi] at HMS
  dsimp only [List.length_cons, List.length_nil, List.flatMap_cons, List.flatMap_nil] at HSC ⊢
  rw [show errV 0 = .nilIface from rfl] at HSC
  have hl2 : (if Op.bytesLess (loB name).toList frm.toList = true then frm else loB name) = lo := hlo
  generalize loB name = l0 at *
  generalize scnB (⟨msgB name n, v⟩ :: t) R lo hi 1 = R2 at *
  clear h1 e1 hlo hhi hL hnd hVl hV hks
  intro S W w L0 hO; simp only [CA] at hO
  ((try clear hf); have hf := fa_ hO)
  go_enter Tryz.func128, Tryz.ntmps128
  go_upto_region 7 with (first | (go_at_call 132; (with_reducible apply Calls.mono (HMS _); rintro e8 w8 ⟨rfl, hx8⟩; replace hO := hO.ext hx8; clear hx8; dsimp only; ((try clear hf); have hf := fa_ hO))) | (go_at_call 23; (with_reducible apply Does.use hO (HSC); (focus exact tk_); clear hO; intro x9 w9 hO; dsimp only at hO ⊢; simp only [CA] at hO; ((try clear hf); have hf := fa_ hO); (obtain ⟨za, zc⟩ := x9; dsimp only at hO ⊢; ((try clear hf); have hf := fa_ hO)))) | ((refine sy_ hO ?_); clear hO; intro w9 hO; (try dsimp only [List.set] at hO); ((try clear hf); have hf := fa_ hO)))
  have hz := rowV (hO.factOf (r := Row2 80 2 za (0 + 1) zc (List.flatMap rwC [⟨msgB name n, v⟩])) pk_)
  rcases hz with hz | ⟨b, off, rfl, hc⟩
  · cases hz
  · clear hc
    have hat : ∀ j, j < 6 → ∀ h, (msgB name n)[name.size + 3 + j]'h = d8 (numD n j) := fun j hj h => msgB_at name hn hj h
    generalize hkk : msgB name n = k at *
    have hsz : k.size = name.size + 9 := by rw [← hkk]; exact msgB_size name n
    clear hkk
    have hds : (k.extract hi.size k.size).size = 6 := by rw [ByteArray.size_extract]; omega
    have hdd : ∀ j, j < 6 → ∀ h, (k.extract hi.size k.size)[j]'h = d8 (numD n j) := fun j hj h => by
      have := hat j hj (by omega)
      rw [← this, ByteArray.getElem_extract]
      congr 1
      omega
    have hsz2 : hi.size ≤ k.size ∧ k.size ≤ hi.size + 6 ∧ hi.size + 6 ≤ k.size := by omega
    clear hsz
    obtain ⟨hs4, hs5, hs6⟩ := hsz2
    clear hat
    generalize hdk : k.extract hi.size k.size = d at *
    have hds1 := Lib.hid hds
    have hdd1 := Lib.hid hdd
    clear hds hdd
    (refine wp_region_run (fun _ => True) (fun _ _ _ _ => trivial) trivial ((0, 0) :: (0, 1) :: (0, 2) :: (1, 3) :: (0, 4) :: (1, 5) :: (1, 6) :: (0, 7) :: (5, 8) :: []) (by kernel_rfl) (by kernel_rfl) rfl (fun _ _ d _ _ h => by cases d <;> exact h) ?_; intro w9 hx9; replace hO := hO.ext hx9; clear hx9; ((try clear hf); have hf := fa_ hO); (repeat (first | (apply inRun_p _ rfl rfl rfl; focus (intro w8 K8 hK8; (repeat (first | go_skip | go_guarded | go_step)); exact hK8)) | (apply inRun_l _ rfl rfl rfl; focus (intro w8 hx8 K8 hK8; have hO := hO.ext hx8; ((try clear hf); have hf := fa_ hO); (have hz := rowV (hO.factOf (r := Row2 80 2 (some ⟨b, off, none⟩) (0 + 1) zc (List.flatMap rwC [⟨k, v⟩])) pk_); have d0 := hz.get (i := 0) rfl; have d1 := hz.get (i := 1) rfl; simp only [Nat.add_zero] at d0); (repeat (first | go_skip | go_guarded | go_step)); exact hK8)) | (apply inRun_q _ rfl; (focus (intro w8 hx8 K8 hK8; have hO := hO.ext hx8; ((try clear hf); have hf := fa_ hO); (repeat (first | go_skip | go_guarded | go_step | fail)); (first | exact xt_ | exact hK8 _ xt_))); (focus (exact rfl)); intro w8 hx8; replace hO := hO.ext hx8; clear hx8; ((try clear hf); have hf := fa_ hO)))))
    refine inRun_d rfl ?_
    intro K8 hK8
    (repeat (first | go_skip | go_guarded | go_step))
    refine hK8 _ _ trivial ?_
    clear hK8 K8
    refine inRun_nil ?_
    go_wp2
    go_loopw [12, 14] (fun v12 v14 wr => ∃ j : Nat, j ≤ 6 ∧ v12 = .int .i64 (numP n j) ∧ wr = w9.iter d j) (fun v12 v14 wr => 6 - posOf wr w9.heap.size)
    case atStart => exact ⟨0, by omega, rfl, rfl⟩
    case round =>
      obtain ⟨j, hj, rfl, rfl⟩ := hrel
      by_cases hlt : j < 6
      · obtain ⟨n1, n2, n3⟩ := numP_next hn hlt
        have hlt2 : j < d.size := by have := hds1.out; omega
        have hd8 : (d8 (numD n j)).toNat = 48 + numD n j := d8_toNat _ n2
        have hde : d[j].toNat = 48 + numD n j := by rw [hdd1.out j hlt hlt2]; exact hd8
        have hnx := fun ty => run_next_ascii (P := Tryz.prog) w9 d j ty hlt2 (by omega)
        rw [hde] at hnx
        go_wp2
        exact ⟨⟨j + 1, by omega, by rw [n1]; go_num, rfl⟩, by rw [posOf_iter, posOf_iter]; omega⟩
      · obtain rfl : j = 6 := by omega
        have hnx := fun ty => run_next_end (P := Tryz.prog) w9 d 6 ty (by have := hds1.out; omega)
        replace hO := hO.ext ((Ext.refl w9).iter d 6)
        ((try clear hf); have hf := fa_ hO)
        have hz := rowV (hO.factOf (r := Row2 80 2 (some ⟨b, off, none⟩) (0 + 1) zc (List.flatMap rwC [⟨k, v⟩])) pk_)
        have d1 : (w9.iter d 6).cell? ⟨b, off + 1, none⟩ = some (.string v) := hz.get (i := 1) rfl
        clear hz
        go_upto_region 12 with (first | (go_at_call 133; (with_reducible apply Calls.mono (HMP _ (hφ _ (Own.immOf (φ := φ) hO pk_))); rintro e8 w8 ⟨rfl, hx8⟩; replace hO := hO.ext hx8; clear hx8; dsimp only; ((try clear hf); have hf := fa_ hO))) | ((refine sy_ hO ?_); clear hO; intro w9 hO; (try dsimp only [List.set] at hO); ((try clear hf); have hf := fa_ hO)))
        clear d1 hnx
        rcases hev.out with ⟨rfl, rfl⟩ | ⟨M, rfl, rfl⟩
        · (refine wp_region_run (fun _ => True) (fun _ _ _ _ => trivial) trivial ((1, 0) :: (0, 1) :: (0, 2) :: (0, 3) :: (5, 4) :: (0, 5) :: (0, 6) :: []) (by kernel_rfl) (by kernel_rfl) rfl (fun _ _ d _ _ h => by cases d <;> exact h) ?_; intro w9 hx9; replace hO := hO.ext hx9; clear hx9; ((try clear hf); have hf := fa_ hO); (repeat (first | (apply inRun_p _ rfl rfl rfl; focus (intro w8 K8 hK8; (repeat (first | go_skip | go_guarded | go_step)); exact hK8)) | (apply inRun_l _ rfl rfl rfl; focus (intro w8 hx8 K8 hK8; have hO := hO.ext hx8; ((try clear hf); have hf := fa_ hO); skip; (repeat (first | go_skip | go_guarded | go_step)); exact hK8)) | (apply inRun_q _ rfl; (focus (intro w8 hx8 K8 hK8; have hO := hO.ext hx8; ((try clear hf); have hf := fa_ hO); (repeat (first | go_skip | go_guarded | go_step | fail)); (first | exact xt_ | exact hK8 _ xt_))); (focus (exact rfl)); intro w8 hx8; replace hO := hO.ext hx8; clear hx8; ((try clear hf); have hf := fa_ hO)))))
          (refine inRun_d rfl ?_; intro K8 hK8; (repeat (first | go_skip | go_guarded | go_step)); refine hK8 _ _ trivial ?_; clear hK8 K8; with_reducible apply inRun_set_own; (focus (exact st_ hO)); clear hO; intro w9 hO; (try dsimp only [List.set] at hO); ((try clear hf); have hf := fa_ hO))
          (repeat (first | (apply inRun_p _ rfl rfl rfl; focus (intro w8 K8 hK8; (repeat (first | go_skip | go_guarded | go_step)); exact hK8)) | (apply inRun_l _ rfl rfl rfl; focus (intro w8 hx8 K8 hK8; have hO := hO.ext hx8; ((try clear hf); have hf := fa_ hO); skip; (repeat (first | go_skip | go_guarded | go_step)); exact hK8)) | (apply inRun_q _ rfl; (focus (intro w8 hx8 K8 hK8; have hO := hO.ext hx8; ((try clear hf); have hf := fa_ hO); (repeat (first | go_skip | go_guarded | go_step | fail)); (first | exact xt_ | exact hK8 _ xt_))); (focus (exact rfl)); intro w8 hx8; replace hO := hO.ext hx8; clear hx8; ((try clear hf); have hf := fa_ hO))))
          refine inRun_nil ?_
          go_wp2
          (refine bodyPost_run rfl fun K hK => ?_; simp [results, Tryz.results128, go_sem, hf]; refine hK _ ⟨(), ?_, ?_⟩)
          · rfl
          · (try simp only [CA])
            exact hO.cut sb_
        · (refine wp_region_run (fun _ => True) (fun _ _ _ _ => trivial) trivial ((1, 0) :: (0, 1) :: (0, 2) :: (0, 3) :: (5, 4) :: (0, 5) :: (0, 6) :: []) (by kernel_rfl) (by kernel_rfl) rfl (fun _ _ d _ _ h => by cases d <;> exact h) ?_; intro w9 hx9; replace hO := hO.ext hx9; clear hx9; ((try clear hf); have hf := fa_ hO); (repeat (first | (apply inRun_p _ rfl rfl rfl; focus (intro w8 K8 hK8; (repeat (first | go_skip | go_guarded | go_step)); exact hK8)) | (apply inRun_l _ rfl rfl rfl; focus (intro w8 hx8 K8 hK8; have hO := hO.ext hx8; ((try clear hf); have hf := fa_ hO); skip; (repeat (first | go_skip | go_guarded | go_step)); exact hK8)) | (apply inRun_q _ rfl; (focus (intro w8 hx8 K8 hK8; have hO := hO.ext hx8; ((try clear hf); have hf := fa_ hO); (repeat (first | go_skip | go_guarded | go_step | fail)); (first | exact xt_ | exact hK8 _ xt_))); (focus (exact rfl)); intro w8 hx8; replace hO := hO.ext hx8; clear hx8; ((try clear hf); have hf := fa_ hO)))))
          (refine inRun_d rfl ?_; intro K8 hK8; (repeat (first | go_skip | go_guarded | go_step)); refine hK8 _ _ trivial ?_; clear hK8 K8; with_reducible apply inRun_set_own; (focus (exact st_ hO)); clear hO; intro w9 hO; (try dsimp only [List.set] at hO); ((try clear hf); have hf := fa_ hO))
          (repeat (first | (apply inRun_p _ rfl rfl rfl; focus (intro w8 K8 hK8; (repeat (first | go_skip | go_guarded | go_step)); exact hK8)) | (apply inRun_l _ rfl rfl rfl; focus (intro w8 hx8 K8 hK8; have hO := hO.ext hx8; ((try clear hf); have hf := fa_ hO); skip; (repeat (first | go_skip | go_guarded | go_step)); exact hK8)) | (apply inRun_q _ rfl; (focus (intro w8 hx8 K8 hK8; have hO := hO.ext hx8; ((try clear hf); have hf := fa_ hO); (repeat (first | go_skip | go_guarded | go_step | fail)); (first | exact xt_ | exact hK8 _ xt_))); (focus (exact rfl)); intro w8 hx8; replace hO := hO.ext hx8; clear hx8; ((try clear hf); have hf := fa_ hO))))
          refine inRun_nil ?_
          go_wp2
          (refine bodyPost_run rfl fun K hK => ?_; simp [results, Tryz.results128, go_sem, hf]; refine hK _ ⟨(), ?_, ?_⟩)
          · rfl
          · (try simp only [CA])
            exact hO.cut sb_
end Go.Proofs.YtmknhibaoopjjaaGreatDoor
namespace Go.Proofs.YtmknhibaoopjjaaGreatDoor
open Go.RowKit
theorem chN_good {c : Ch} (h : chN c = 0) : KeyOk c.key ∧ c.val.size ≤ 40 := by
  unfold chN at h
  split at h
  · rename_i h1
    refine ⟨h1, ?_⟩
    split at h
    · cases h
    · split at h
      · cases h
      · omega
  · cases h
/-- What is known of changes and reads between two acts. -/
structure QInv (C : List Ch) (R : List Sp) : Prop where
  ups : Ups C
  c12 : C.length ≤ 12
  r40 : R.length ≤ 40
  good : ∀ c ∈ C, chN c = 0
/-- What is known of rows. -/
structure QRows (rows : List Rw) : Prop where
  ups : RUps rows
  ok : ∀ r ∈ rows, KeyOk r.key ∧ r.val.size ≤ 40
  len : rows.length ≤ 1000
theorem KeyOk.size_le {k : ByteArray} (h : KeyOk k) : k.size ≤ 60 := by
  rcases h with ⟨a, ha, rfl | rfl⟩ | ⟨q, n, hq, hn, rfl⟩
  · have := ha.2.1
    show (tabB a).size ≤ 60
    have e : (tabB a).size = 2 + a.size := by
      unfold tabB
      rw [ByteArray.size_append, ByteArray.size_append]
      rfl
    omega
  · have := ha.2.1
    show (queB a).size ≤ 60
    rw [queB_size]; omega
  · have := hq.2.1
    show (msgB q n).size ≤ 60
    rw [msgB_size]; omega
theorem QInv.val {C : List Ch} {R : List Sp} (h : QInv C R) : ∀ c ∈ C, c.val.size ≤ 100 := fun c hc => by have := (chN_good (h.good c hc)).2; omega
theorem QInv.put {C : List Ch} {R : List Sp} (h : QInv C R) (c : Ch) : QInv (putL C c) R := by
  have hk := putL_keep c h.ups h.c12
  refine ⟨hk.1, hk.2, h.r40, fun x hx => ?_⟩
  unfold putL at hx
  split at hx
  · rename_i h1
    rcases mem_put hx with rfl | hx
    · unfold putN at h1
      split at h1
      · rename_i h2; exact absurd h1 h2
      · rename_i h2; exact Classical.not_not.1 h2
    · exact h.good x hx
  · exact h.good x hx
theorem QInv.reads {C : List Ch} {R R' : List Sp} (h : QInv C R) (hR : R'.length ≤ 40) : QInv C R' := ⟨h.ups, h.c12, hR, h.good⟩
theorem QInv.putq {C : List Ch} {R : List Sp} (h : QInv C R) (name : ByteArray) (q : Qu) : QInv (putqL C name q) R := by
  unfold putqL
  split
  · exact h
  · exact h.put _
theorem QInv.set {C : List Ch} {R : List Sp} (h : QInv C R) (name : ByteArray) (m : Ms) : QInv (setL C name m) R := by
  unfold setL
  split
  · exact h
  · exact h.put _
theorem QInv.send {C : List Ch} {R : List Sp} (h : QInv C R) (name : ByteArray) (u : Qu) (body : ByteArray) (til : Int) : QInv (sendA C name u body til).2.2 R := by
  unfold sendA
  split
  · exact h
  · split
    · exact h
    · split
      · exact h
      · exact (h.put _).putq _ _
theorem QInv.find {C : List Ch} {R : List Sp} (h : QInv C R) (name : ByteArray) : QInv C (findR C R name) := h.reads (findR_len h.r40)
theorem QInv.bury {C : List Ch} {R : List Sp} (h : QInv C R) (B : ByteArray → ByteArray × Bool) (name : ByteArray) (u : Qu) (m : Ms) : QInv (buryA B C R name u m).2.1 (buryA B C R name u m).2.2 := by
  unfold buryA
  split
  · exact h
  · split
    · exact h.put _
    · split
      · exact (h.put _).find _
      · exact ((h.put _).find _).send _ _ _ _
theorem QInv.scan {C : List Ch} {R : List Sp} (h : QInv C R) (L : List Rw) (lo hi : ByteArray) (most : Int) : QInv C (scnB L R lo hi most) := by
  refine h.reads ?_
  unfold scnB
  split
  · exact h.r40
  · exact noteR_len _ h.r40
theorem apps_mem {P : Rw → Prop} : ∀ {C : List Ch} {l : List Rw}, (∀ r ∈ l, P r) → (∀ c ∈ C, P ⟨c.key, c.val⟩) → ∀ r ∈ C.foldl appR l, P r
  | [], _, h, _ => h
  | c :: C, l, h, hC => apps_mem (C := C) (l := appR l c) (fun r hr => by
      rcases mem_appF.1 hr with ⟨h1, _⟩ | ⟨_, h1⟩
      · exact h r h1
      · rw [h1]; exact hC c (List.mem_cons_self ..)) fun d hd => hC d (List.mem_cons_of_mem _ hd)
theorem seen_ok {rows : List Rw} {C : List Ch} {R : List Sp} (hr : QRows rows) (h : QInv C R) : ∀ r ∈ C.foldl appR rows, KeyOk r.key ∧ r.val.size ≤ 40 :=
  apps_mem hr.ok fun c hc => chN_good (h.good c hc)
theorem seen_keys {rows : List Rw} {C : List Ch} {R : List Sp} (hr : QRows rows) (h : QInv C R) (lo hi : ByteArray) : ∀ r ∈ inR lo hi (C.foldl appR rows), r.key.size ≤ 300 := fun r hm => by
  have := (seen_ok hr h r (List.mem_filter.1 hm).1).1.size_le; omega
theorem has_span {a k : ByteArray} : hasB (loB a) (hiB a) k = true ↔ ∃ r, k.data.toList = 109 :: 47 :: (a.data.toList ++ 47 :: r) := has_msgs a k
theorem span_msg {name k : ByteArray} (hn : NameOk name) (hk : KeyOk k) (h : hasB (loB name) (hiB name) k = true) : ∃ n, n < 1000000 ∧ k = msgB name n := by
  have h := has_span.1 h
  rcases hk with ⟨a, ha, rfl | rfl⟩ | ⟨q, n, hq, hn2, rfl⟩
  · exact absurd h (has_tab name a)
  · exact absurd h (has_que name a)
  · have := (has_msg hn hq n).1 h
    subst this
    exact ⟨n, hn2, rfl⟩
theorem msg_lo {name : ByteArray} (hn : NameOk name) (n : Nat) : slt (msgB name n) (loB name) = false := by
  have h := has_span.2 ((has_msg hn hn n).2 rfl)
  unfold hasB at h
  simp only [Bool.and_eq_true, Bool.not_eq_true'] at h
  exact h.1
theorem lo_msg {name : ByteArray} (hn : NameOk name) (n : Nat) : slt (loB name) (msgB name n ++ nul) = true := slt_of_not_of_slt (msg_lo hn n) (slt_nul _)
/-- Where a look begins: at the span's beginning, or behind a message's row. -/
def LoOk (name : ByteArray) (k : Nat) (lo : ByteArray) : Prop := (k = 0 ∧ lo = loB name) ∨ ∃ n, n < 1000000 ∧ k = n + 1 ∧ lo = msgB name n ++ nul
theorem LoOk.le {name lo : ByteArray} {k : Nat} (hn : NameOk name) (h : LoOk name k lo) : slt lo (loB name) = false := by
  rcases h with ⟨_, rfl⟩ | ⟨n, _, _, rfl⟩
  · exact slt_irrefl _
  · exact slt_asymm (lo_msg hn n)
theorem LoOk.num {name lo hi : ByteArray} {k m : Nat} (h : LoOk name k lo) (hm : m < 1000000) (hh : hasB lo hi (msgB name m) = true) : k ≤ m := by
  rcases h with ⟨rfl, _⟩ | ⟨n, hn, rfl, rfl⟩
  · exact Nat.zero_le _
  · unfold hasB at hh
    simp only [Bool.and_eq_true, Bool.not_eq_true'] at hh
    have h1 := hh.1
    rw [slt_nul_iff, slt_msg name n m hn hm] at h1
    simp only [Bool.not_eq_false', decide_eq_true_eq] at h1
    omega
def Ms.more (m : Ms) (t : Int) : Ms := ⟨m.num, m.tries + 1, t, m.body⟩
/-- What is received: from a place on. -/
inductive Recv (rows : List Rw) (name : ByteArray) (u : Qu) (now long : Int) : List Ch → List Sp → ByteArray → Ms × Nat × List Ch × List Sp → Prop
  | bad {C R lo res L} (hL : inR lo (hiB name) (C.foldl appR rows) = L) (h1 : scnN L R lo (hiB name) 1 ≠ 0) (e : res = (Ms.z, scnN L R lo (hiB name) 1, C, scnB L R lo (hiB name) 1)) : Recv rows name u now long C R lo res
  | empty {C R lo res} (hL : inR lo (hiB name) (C.foldl appR rows) = []) (h1 : scnN [] R lo (hiB name) 1 = 0) (e : res = (Ms.z, 12, C, scnB [] R lo (hiB name) 1)) : Recv rows name u now long C R lo res
  | text {C R lo res n v t} (hL : inR lo (hiB name) (C.foldl appR rows) = ⟨msgB name n, v⟩ :: t) (h1 : scnN (⟨msgB name n, v⟩ :: t) R lo (hiB name) 1 = 0) (hn : n < 1000000) (hv : v.size ≤ 40)
      (h2 : (msOf n v).2 ≠ 0) (e : res = (Ms.z, (msOf n v).2, C, scnB (⟨msgB name n, v⟩ :: t) R lo (hiB name) 1)) : Recv rows name u now long C R lo res
  | skip {C R lo res n v t} (hL : inR lo (hiB name) (C.foldl appR rows) = ⟨msgB name n, v⟩ :: t) (h1 : scnN (⟨msgB name n, v⟩ :: t) R lo (hiB name) 1 = 0) (hn : n < 1000000) (hv : v.size ≤ 40)
      (h2 : (msOf n v).2 = 0) (h3 : now < (msOf n v).1.until_) (h : Recv rows name u now long C (scnB (⟨msgB name n, v⟩ :: t) R lo (hiB name) 1) (msgB name n ++ nul) res) : Recv rows name u now long C R lo res
  | lost {C R lo res n v t} (hL : inR lo (hiB name) (C.foldl appR rows) = ⟨msgB name n, v⟩ :: t) (h1 : scnN (⟨msgB name n, v⟩ :: t) R lo (hiB name) 1 = 0) (hn : n < 1000000) (hv : v.size ≤ 40)
      (h2 : (msOf n v).2 = 0) (h3 : ¬ now < (msOf n v).1.until_) (h4 : u.tries ≤ (msOf n v).1.tries) (h5 : (buryA (valR rows) C (scnB (⟨msgB name n, v⟩ :: t) R lo (hiB name) 1) name u (msOf n v).1).1 ≠ 0)
      (e : res = (Ms.z, buryA (valR rows) C (scnB (⟨msgB name n, v⟩ :: t) R lo (hiB name) 1) name u (msOf n v).1)) : Recv rows name u now long C R lo res
  | bury {C R lo res n v t} (hL : inR lo (hiB name) (C.foldl appR rows) = ⟨msgB name n, v⟩ :: t) (h1 : scnN (⟨msgB name n, v⟩ :: t) R lo (hiB name) 1 = 0) (hn : n < 1000000) (hv : v.size ≤ 40)
      (h2 : (msOf n v).2 = 0) (h3 : ¬ now < (msOf n v).1.until_) (h4 : u.tries ≤ (msOf n v).1.tries) (h5 : (buryA (valR rows) C (scnB (⟨msgB name n, v⟩ :: t) R lo (hiB name) 1) name u (msOf n v).1).1 = 0)
      (h : Recv rows name u now long (buryA (valR rows) C (scnB (⟨msgB name n, v⟩ :: t) R lo (hiB name) 1) name u (msOf n v).1).2.1 (buryA (valR rows) C (scnB (⟨msgB name n, v⟩ :: t) R lo (hiB name) 1) name u (msOf n v).1).2.2 (msgB name n ++ nul) res) : Recv rows name u now long C R lo res
  | take {C R lo res n v t} (hL : inR lo (hiB name) (C.foldl appR rows) = ⟨msgB name n, v⟩ :: t) (h1 : scnN (⟨msgB name n, v⟩ :: t) R lo (hiB name) 1 = 0) (hn : n < 1000000) (hv : v.size ≤ 40)
      (h2 : (msOf n v).2 = 0) (h3 : ¬ now < (msOf n v).1.until_) (h4 : ¬ u.tries ≤ (msOf n v).1.tries)
      (e : res = ((msOf n v).1.more (now + long), setN C name ((msOf n v).1.more (now + long)), setL C name ((msOf n v).1.more (now + long)), scnB (⟨msgB name n, v⟩ :: t) R lo (hiB name) 1)) : Recv rows name u now long C R lo res
end Go.Proofs.YtmknhibaoopjjaaGreatDoor
namespace Go.Proofs.YtmknhibaoopjjaaGreatDoor
open Go.RowKit
def msC (m : Ms) : List Value := [.int .i64 m.num, .int .i64 m.tries, .int .i64 m.until_, .string m.body]
theorem ms_one (O : List Ms) (x : Ms) : (O ++ [x]).flatMap msC = O.flatMap msC ++ [.int .i64 x.num, .int .i64 x.tries, .int .i64 x.until_, .string x.body] := by rw [List.flatMap_append]; rfl
theorem Tryz.infoMs : (Tryz.prog.info? 104).map (fun i => (i.zero, i.size, i.bytes)) = some (some (.agg #[.int .i64 0, .int .i64 0, .int .i64 0, .string ⟨#[]⟩]), 4, 40) := by kernel_rfl
/-- A message as it is read of its row. -/
noncomputable def msR (r : Rw) : Ms × Nat := msOf (numO r.key) r.val
open Classical in
noncomputable def msgsN (L : List Rw) : Nat := if ∀ r ∈ L, (msR r).2 = 0 then 0 else 4
noncomputable def msgsA (rows : List Rw) (C : List Ch) (R : List Sp) (name : ByteArray) : List Ms × Nat × List Sp :=
  if (findN (valR rows (queB name)) C R name).2 ≠ 0 then ([], (findN (valR rows (queB name)) C R name).2, findR C R name)
  else if scnN (inR (loB name) (hiB name) (C.foldl appR rows)) (findR C R name) (loB name) (hiB name) 53 ≠ 0 then ([], scnN (inR (loB name) (hiB name) (C.foldl appR rows)) (findR C R name) (loB name) (hiB name) 53, scnB (inR (loB name) (hiB name) (C.foldl appR rows)) (findR C R name) (loB name) (hiB name) 53)
  else if msgsN ((inR (loB name) (hiB name) (C.foldl appR rows)).take 53) ≠ 0 then ([], 4, scnB (inR (loB name) (hiB name) (C.foldl appR rows)) (findR C R name) (loB name) (hiB name) 53)
  else (((inR (loB name) (hiB name) (C.foldl appR rows)).take 53).map (fun r => (msR r).1), 0, scnB (inR (loB name) (hiB name) (C.foldl appR rows)) (findR C R name) (loB name) (hiB name) 53)
theorem msR_or (r : Rw) : (msR r).2 = 0 ∨ (msR r).2 = 4 ∧ (msR r).1 = Ms.z := by
  rcases msOf_cases (numO r.key) r.val with ⟨m, hm, _⟩ | ⟨hm, _⟩
  · left; unfold msR; rw [hm]
  · right; unfold msR; rw [hm]; exact ⟨rfl, rfl⟩
theorem msgsN_bad {L : List Rw} {r : Rw} (h : r ∈ L) (h2 : (msR r).2 = 4) : msgsN L = 4 := by
  unfold msgsN
  rw [if_neg (fun h3 => by rw [h3 r h] at h2; cases h2)]
theorem msgsN_ok {L : List Rw} (h : ∀ r ∈ L, (msR r).2 = 0) : msgsN L = 0 := by unfold msgsN; rw [if_pos h]
/-- Rows of a queue's messages. -/
def MsgRows (name : ByteArray) (L : List Rw) : Prop := ∀ r ∈ L, ∃ n, n < 1000000 ∧ r.key = msgB name n ∧ r.val.size ≤ 40
theorem msgRows {rows : List Rw} {C : List Ch} {R : List Sp} {name : ByteArray} (hr : QRows rows) (h : QInv C R) (hn : NameOk name) : MsgRows name (inR (loB name) (hiB name) (C.foldl appR rows)) := fun r hm => by
  obtain ⟨h1, h2⟩ := List.mem_filter.1 hm
  obtain ⟨h3, h4⟩ := seen_ok hr h r h1
  obtain ⟨n, hn1, hn2⟩ := span_msg hn h3 h2
  exact ⟨n, hn1, hn2, h4⟩
theorem MsgRows.take {name : ByteArray} {L : List Rw} (h : MsgRows name L) (k : Nat) : MsgRows name (L.take k) := fun r hr => h r (List.mem_of_mem_take hr)
/-- What is seen, at a deed, of versions. -/
structure Seen (V : List (ByteArray × List Vn)) (since : Nat) (rows : List Rw) : Prop where
  rd : ∀ k, readV V k since = valR rows k
  sc : ∀ f, scanV V f since = rows.filter fun r => f r.key
  nd : (V.map (·.1)).Nodup
  vl : V.length ≤ 50000
  v1 : ∀ e ∈ V, e.2.length ≤ 100000
  qr : QRows rows
theorem Seen.scan {V : List (ByteArray × List Vn)} {since : Nat} {rows : List Rw} (h : Seen V since rows) (C : List Ch) (lo hi : ByteArray) : (inC lo hi C).foldl appR (scanV V (hasB lo hi) since) = inR lo hi (C.foldl appR rows) := by
  rw [inR_apps lo hi C h.qr.ups, h.sc]; rfl
theorem valR_val {rows : List Rw} (h : ∀ r ∈ rows, r.val.size ≤ 40) (k : ByteArray) : (valR rows k).1.size ≤ 100 := by
  unfold valR
  cases hf : rows.find? (fun r => decide (r.key = k)) with
  | none => exact Nat.zero_le _
  | some r => have := h r (List.mem_of_find?_eq_some hf); dsimp only; omega
theorem Seen.val {V : List (ByteArray × List Vn)} {since : Nat} {rows : List Rw} (h : Seen V since rows) : ∀ k, (valR rows k).1.size ≤ 100 := valR_val fun r hr => (h.qr.ok r hr).2
theorem Seen.v6 {V : List (ByteArray × List Vn)} {since : Nat} {rows : List Rw} (h : Seen V since rows) : ∀ e ∈ V, e.2.length ≤ 1000000 := fun e he => Nat.le_trans (h.v1 e he) (by omega)
theorem Seen.new {rows : List Rw} (h : QRows rows) : Seen (newV rows) 0 rows := by
  refine ⟨fun k => newV_read rows k (by omega), fun f => ?_, newV_nodup h.ups, by rw [newV_length]; have := h.len; omega, newV_len1 rows, h⟩
  exact (Past.new h.ups).scan (m := 0) (by omega) (j := 0) (by simp) (by simp) f
end Go.Proofs.YtmknhibaoopjjaaGreatDoor
namespace Go.Proofs.YtmknhibaoopjjaaGreatDoor
open Go.RowKit
def strOf : Value → ByteArray
  | .string s => s
  | _ => ⟨#[]⟩
/-- Where a look goes on: nowhere yet, or behind a message. -/
def FrmOk (name frm : ByteArray) (k : Nat) : Prop := (k = 0 ∧ frm = ⟨#[]⟩) ∨ ∃ n, n < 1000000 ∧ k = n + 1 ∧ frm = msgB name n ++ nul
open Classical in
noncomputable def measF (name frm : ByteArray) : Nat := if h : ∃ n, n < 1000000 ∧ frm = msgB name n ++ nul then 1000000 - h.choose else 1000001
theorem msg_nul_inj {name : ByteArray} {n m : Nat} (hn : n < 1000000) (hm : m < 1000000) (h : msgB name n ++ nul = msgB name m ++ nul) : n = m := by
  have h1 := slt_nul_iff (msgB name m) (msgB name n)
  rw [← h, slt_nul, slt_msg name m n hm hn] at h1
  have h2 := slt_nul_iff (msgB name n) (msgB name m)
  rw [h, slt_nul, slt_msg name n m hn hm] at h2
  simp at h1 h2
  omega
theorem FrmOk.meas {name frm : ByteArray} {k : Nat} (h : FrmOk name frm k) : measF name frm = 1000001 - k := by
  unfold measF
  rcases h with ⟨rfl, rfl⟩ | ⟨n, hn, rfl, rfl⟩
  · rw [dif_neg]
    rintro ⟨n, _, h⟩
    have := congrArg ByteArray.size h
    rw [ByteArray.size_append, msgB_size] at this
    change 0 = _ at this
    omega
  · have h0 : ∃ m, m < 1000000 ∧ msgB name n ++ nul = msgB name m ++ nul := ⟨n, hn, rfl⟩
    rw [dif_pos h0]
    have := msg_nul_inj hn h0.choose_spec.1 h0.choose_spec.2
    omega
theorem FrmOk.lo {name frm : ByteArray} {k : Nat} (hn : NameOk name) (h : FrmOk name frm k) : ∃ lo, (if slt (loB name) frm then frm else loB name) = lo ∧ LoOk name k lo := by
  rcases h with ⟨rfl, rfl⟩ | ⟨n, hn2, rfl, rfl⟩
  · refine ⟨loB name, ?_, .inl ⟨rfl, rfl⟩⟩
    rw [if_neg]
    rw [show slt (loB name) ⟨#[]⟩ = false from by unfold slt; rw [ByteArray.toList_eq ⟨#[]⟩]; cases (loB name).toList <;> rfl]
    simp
  · exact ⟨_, if_pos (lo_msg hn n), .inr ⟨n, hn2, rfl, rfl⟩⟩
set_option maxHeartbeats 16000000 in
set_option maxRecDepth 100000 in
theorem recv1_does (b0 b1 b2 b3 b4 b5 q p since nn : Nat) (V : List (ByteArray × List Vn)) (rows : List Rw) (hs : Seen V since rows) (C : List Ch) (R : List Sp) (name : ByteArray) (u : Qu) (now long : Int) (res : Ms × Nat × List Ch × List Sp)
    (hr : Recv rows name u now long C R (loB name) res) (hI : QInv C R) (hn : NameOk name) (hud : u.dead.size ≤ 6) (hn0 : 0 ≤ now) (hn1 : now ≤ 1000000) (hl0 : 0 ≤ long) (hl1 : long ≤ 1000000) {φ : World → Prop} (hφ : ∀ w, φ w → LibOk w) :
    Does Tryz.prog 127 #[.pointer (some ⟨b0, 0, none⟩), .pointer (some ⟨b1, 0, none⟩), .pointer (some ⟨b2, 0, none⟩), .pointer (some ⟨b3, 0, none⟩), .pointer (some ⟨b4, 0, none⟩), .pointer (some ⟨b5, 0, none⟩)] [Var b0 [.pointer (some ⟨q, 0, none⟩)] 27, Var b1 [.string name] 9, Var b2 [.int .i64 now] 3, Var b3 [.int .i64 u.next, .int .i64 u.tries, .string u.dead] 187, Var b4 [.int .i64 long] 3, Var b5 (msC Ms.z) 104, ViewR q p since C R, VerR p nn V, .imm φ]
      (fun _ : Unit => (errV res.2.1, [Var b0 [.pointer (some ⟨q, 0, none⟩)] 27, Var b1 [.string name] 9, Var b2 [.int .i64 now] 3, Var b3 [.int .i64 u.next, .int .i64 u.tries, .string u.dead] 187, Var b4 [.int .i64 long] 3, Var b5 (msC res.1) 104, ViewR q p since res.2.2.1 res.2.2.2, VerR p nn V, .imm φ])) := by
  obtain ⟨un, ut, ud⟩ := u
  have hk6 : name.size ≤ 6 := hn.2.1
  unfold msC Ms.z
  dsimp only at hud ⊢
  have HS := Lib.hid hs
  have HNM := Lib.hid hn
  clear hs hn
  intro S W w L0 hO; simp only [CA] at hO
  ((try clear hf); have hf := fa_ hO)
  go_enter Tryz.func127, Tryz.ntmps127
  go_wp2_with (first | ((refine sy_ hO ?_); clear hO; intro w9 hO; (try dsimp only [List.set] at hO); ((try clear hf); have hf := fa_ hO)))
  have hO9 := hO
  clear hO hf
  have HR0 := Lib.hid hr
  have HI0 := Lib.hid hI
  clear hr hI
  go_loopw [7] (fun v7 wr => ∃ (C' : List Ch) (R' : List Sp) (frm : ByteArray), v7 = .string frm ∧ Hid (QInv C' R') ∧ Hid (∃ k lo, FrmOk name frm k ∧ LoOk name k lo ∧ (if slt (loB name) frm then frm else loB name) = lo ∧ Recv rows name ⟨un, ut, ud⟩ now long C' R' lo res) ∧ Own S W wr ([Var b0 [.pointer (some ⟨q, 0, none⟩)] 27, Var b1 [.string name] 9, Var b2 [.int .i64 now] 3, Var b3 [.int .i64 un, .int .i64 ut, .string ud] 187, Var b4 [.int .i64 long] 3, Var b5 [.int .i64 0, .int .i64 0, .int .i64 0, .string ⟨#[]⟩] 104, ViewR q p since C' R', VerR p nn V, .imm φ] ++ L0)) (fun v7 _ => measF name (strOf v7))
  case atStart =>
    obtain ⟨lo, h1, h2⟩ := FrmOk.lo HNM.out (k := 0) (frm := ⟨#[]⟩) (.inl ⟨rfl, rfl⟩)
    have h3 : lo = loB name := by rcases h2 with ⟨_, h⟩ | ⟨n, _, h, _⟩; exact h; omega
    subst h3
    exact ⟨C, R, ⟨#[]⟩, rfl, HI0, Lib.hid ⟨0, _, .inl ⟨rfl, rfl⟩, h2, h1, HR0.out⟩, by (try simp only [CA]); exact hO9.cut sb_⟩
  case round =>
    clear hO9 HR0 HI0
    obtain ⟨C', R', frm, rfl, HI, HR, hO⟩ := hrel
    rename World => w1
    simp only [List.cons_append, List.nil_append] at hO
    have hc12 := HI.out.c12
    have hr40 := HI.out.r40
    obtain ⟨k, lo, hfr, hlo, hle, hr⟩ := HR.out
    have HM := Lib.hid hfr.meas
    clear HR
    ((try clear hf); have hf := fa_ hO)
    have hks := seen_keys HS.out.qr HI.out lo (hiB name)
    have hL0 := HS.out.scan C' lo (hiB name)
    cases hr with
    | bad hL h1 e =>
      have HFN := first_none q p since nn V C' R' name frm lo (hiB name) _ hle rfl (hL0.trans hL) HS.out.nd (by omega) (by omega) HS.out.vl HS.out.v1 (hL ▸ hks) (by omega) h1
      unfold Ms.v at HFN
      unfold Ms.z at HFN e
      dsimp only at HFN
      generalize scnB _ R' lo (hiB name) 1 = R2 at *
      generalize scnN _ R' lo (hiB name) 1 = N at *
      have HE := Lib.hid e
      clear e
      rcases errV_or N with ⟨h0, e⟩ | ⟨M, h0, e⟩
      · exact absurd h0 h1
      · rw [e] at HFN
        have HV := Lib.hid e
        clear e h0 h1 hL hL0 hks hle hlo hfr
        go_wp2_with (first | (go_at_call 128; (with_reducible apply Does.use hO (HFN); (focus exact tk_); clear hO; intro x9 w9 hO; dsimp only at hO ⊢; simp only [CA] at hO; ((try clear hf); have hf := fa_ hO))) | ((refine sy_ hO ?_); clear hO; intro w9 hO; (try dsimp only [List.set] at hO); ((try clear hf); have hf := fa_ hO)))
        go_ret
        rw [HE.out]
        dsimp only
        refine ⟨(), (by rw [HV.out]; rfl), ?_⟩
        (try simp only [CA])
        exact hO.cut sb_
    | empty hL h1 e =>
      have HFN := first_empty q p since nn V C' R' name frm lo (hiB name) hle rfl (hL0.trans hL) HS.out.nd (by omega) (by omega) HS.out.vl HS.out.v1 (by omega) h1
      unfold Ms.v at HFN
      unfold Ms.z at HFN e
      dsimp only at HFN
      generalize scnB _ R' lo (hiB name) 1 = R2 at *
      have HE := Lib.hid e
      clear e h1 hL hL0 hks hle hlo hfr
      go_wp2_with (first | (go_at_call 128; (with_reducible apply Does.use hO (HFN); (focus exact tk_); clear hO; intro x9 w9 hO; dsimp only at hO ⊢; simp only [CA] at hO; ((try clear hf); have hf := fa_ hO))) | ((refine sy_ hO ?_); clear hO; intro w9 hO; (try dsimp only [List.set] at hO); ((try clear hf); have hf := fa_ hO)))
      go_ret
      rw [HE.out]
      dsimp only
      refine ⟨(), rfl, ?_⟩
      (try simp only [CA])
      exact hO.cut sb_
    | @text _ _ _ _ n v t hL h1 hn2 hv h2 e =>
      have HFN := first_some q p since nn n V C' R' name frm lo (hiB name) v t hle rfl (hL0.trans hL) HS.out.nd (by omega) (by omega) HS.out.vl HS.out.v1 (by omega) (hL ▸ hks) h1 hn2 (by omega) hφ
      have hz : (msOf n v).1 = Ms.z := by
        rcases msOf_cases n v with ⟨m, hm, _⟩ | ⟨hm, _⟩
        · rw [hm] at h2; exact absurd rfl h2
        · rw [hm]
      rw [hz] at HFN
      unfold Ms.v at HFN
      unfold Ms.z at HFN e
      dsimp only at HFN
      generalize scnB _ R' lo (hiB name) 1 = R2 at *
      rw [decide_eq_false h2] at HFN
      generalize (msOf n v).2 = N at *
      have HE := Lib.hid e
      clear e
      rcases errV_or N with ⟨h0, e⟩ | ⟨M, h0, e⟩
      · exact absurd h0 h2
      · rw [e] at HFN
        have HV := Lib.hid e
        clear e h0 h1 h2 hz hL hL0 hks hle hlo hfr
        go_wp2_with (first | (go_at_call 128; (with_reducible apply Does.use hO (HFN); (focus exact tk_); clear hO; intro x9 w9 hO; dsimp only at hO ⊢; simp only [CA] at hO; ((try clear hf); have hf := fa_ hO))) | ((refine sy_ hO ?_); clear hO; intro w9 hO; (try dsimp only [List.set] at hO); ((try clear hf); have hf := fa_ hO)))
        go_ret
        rw [HE.out]
        dsimp only
        refine ⟨(), (by rw [HV.out]; rfl), ?_⟩
        (try simp only [CA])
        exact hO.cut sb_
    | @skip _ _ _ _ n v t hL h1 hn2 hv h2 h3 h =>
      have HFN := first_some q p since nn n V C' R' name frm lo (hiB name) v t hle rfl (hL0.trans hL) HS.out.nd (by omega) (by omega) HS.out.vl HS.out.v1 (by omega) (hL ▸ hks) h1 hn2 (by omega) hφ
      have HMG : ∀ w, LibOk w → Calls Tryz.prog 129 #[.string name, .int .i64 (n : Int)] w fun e w' => e = .returned (.string (msgB name n)) ∧ Ext w w' := fun w h => message_any name n w (by omega) h (by omega)
      have HPT : ∀ w, Calls Tryz.prog 75 #[.string (msgB name n)] w fun e w' => e = .returned (.agg #[.string (msgB name n), .string (msgB name n ++ nul)]) ∧ Ext w w' := fun w => point_any (msgB name n) w (by rw [msgB_size]; omega)
      have hkn : k ≤ n := hlo.num hn2 (List.mem_filter.1 (show (⟨msgB name n, v⟩ : Rw) ∈ inR lo (hiB name) (C'.foldl appR rows) by rw [hL]; exact List.mem_cons_self ..)).2
      have hfr2 : FrmOk name (msgB name n ++ nul) (n + 1) := .inr ⟨n, hn2, rfl, rfl⟩
      have HF2 := Lib.hid hfr2
      have HM2 := Lib.hid (show measF name (msgB name n ++ nul) < measF name frm by rw [hfr.meas, hfr2.meas]; have := hfr2; omega)
      clear hfr2
      have hmm : (msOf n v).1.num = n ∧ ¬ (msOf n v).1.bad := by
        rcases msOf_cases n v with ⟨m, hm, hmn, hmb, _⟩ | ⟨hm, _⟩
        · rw [hm]; exact ⟨hmn, hmb⟩
        · rw [hm] at h2; cases h2
      rw [h2, show errV 0 = .nilIface from rfl, decide_eq_true (show (0 : Nat) = 0 from rfl)] at HFN
      generalize (msOf n v).1 = mm at *
      obtain ⟨mn, mt, mu, mb⟩ := mm
      obtain ⟨hmn, hmb⟩ := hmm
      dsimp only at hmn
      subst hmn
      unfold Ms.v at HFN
      dsimp only at *
      have hmm : ¬ Ms.bad ⟨n, mt, mu, mb⟩ := hmb
      unfold Ms.bad at hmb
      dsimp only at hmb
      have hm1 : 0 ≤ mt ∧ mt ≤ 9 ∧ 0 ≤ mu ∧ mu ≤ 2000000 := by omega
      obtain ⟨hm1, hm2, hm3, hm4⟩ := hm1
      clear hmb
      have HI2 := Lib.hid (HI.out.scan (⟨msgB name n, v⟩ :: t) lo (hiB name) 1)
      have HR2 := Lib.hid h
      generalize scnB _ R' lo (hiB name) 1 = R2 at *
      clear h h1 h2 hL hL0 hks hle hlo hfr hmm
      go_wp2_with (first | (go_at_call 128; (with_reducible apply Does.use hO (HFN); (focus exact tk_); clear hO; intro x9 w9 hO; dsimp only at hO ⊢; simp only [CA] at hO; ((try clear hf); have hf := fa_ hO))) | (go_at_call 129; (with_reducible apply Calls.mono (HMG _ (hφ _ (Own.immOf (φ := φ) hO pk_))); rintro e8 w8 ⟨rfl, hx8⟩; replace hO := hO.ext hx8; clear hx8; dsimp only; ((try clear hf); have hf := fa_ hO))) | (go_at_call 75; (with_reducible apply Calls.mono (HPT _); rintro e8 w8 ⟨rfl, hx8⟩; replace hO := hO.ext hx8; clear hx8; dsimp only; ((try clear hf); have hf := fa_ hO))) | ((refine sy_ hO ?_); clear hO; intro w9 hO; (try dsimp only [List.set] at hO); ((try clear hf); have hf := fa_ hO)))
      all_goals try (exfalso; omega; done)
      exact ⟨⟨C', R2, msgB name n ++ nul, rfl, HI2, Lib.hid ⟨n + 1, _, HF2.out, .inr ⟨n, hn2, rfl, rfl⟩, if_pos (lo_msg HNM.out n), HR2.out⟩, by (try simp only [CA]); exact hO.cut sb_⟩, HM2.out⟩
    | @lost _ _ _ _ n v t hL h1 hn2 hv h2 h3 h4 h5 e =>
      have HFN := first_some q p since nn n V C' R' name frm lo (hiB name) v t hle rfl (hL0.trans hL) HS.out.nd (by omega) (by omega) HS.out.vl HS.out.v1 (by omega) (hL ▸ hks) h1 hn2 (by omega) hφ
      have HMG : ∀ w, LibOk w → Calls Tryz.prog 129 #[.string name, .int .i64 (n : Int)] w fun e w' => e = .returned (.string (msgB name n)) ∧ Ext w w' := fun w h => message_any name n w (by omega) h (by omega)
      have HPT : ∀ w, Calls Tryz.prog 75 #[.string (msgB name n)] w fun e w' => e = .returned (.agg #[.string (msgB name n), .string (msgB name n ++ nul)]) ∧ Ext w w' := fun w => point_any (msgB name n) w (by rw [msgB_size]; omega)
      have hkn : k ≤ n := hlo.num hn2 (List.mem_filter.1 (show (⟨msgB name n, v⟩ : Rw) ∈ inR lo (hiB name) (C'.foldl appR rows) by rw [hL]; exact List.mem_cons_self ..)).2
      have hfr2 : FrmOk name (msgB name n ++ nul) (n + 1) := .inr ⟨n, hn2, rfl, rfl⟩
      have HF2 := Lib.hid hfr2
      have HM2 := Lib.hid (show measF name (msgB name n ++ nul) < measF name frm by rw [hfr.meas, hfr2.meas]; have := hfr2; omega)
      clear hfr2
      have hmm : (msOf n v).1.num = n ∧ ¬ (msOf n v).1.bad := by
        rcases msOf_cases n v with ⟨m, hm, hmn, hmb, _⟩ | ⟨hm, _⟩
        · rw [hm]; exact ⟨hmn, hmb⟩
        · rw [hm] at h2; cases h2
      rw [h2, show errV 0 = .nilIface from rfl, decide_eq_true (show (0 : Nat) = 0 from rfl)] at HFN
      generalize (msOf n v).1 = mm at *
      obtain ⟨mn, mt, mu, mb⟩ := mm
      obtain ⟨hmn, hmb⟩ := hmm
      dsimp only at hmn
      subst hmn
      unfold Ms.v at HFN
      dsimp only at *
      have hmm : ¬ Ms.bad ⟨n, mt, mu, mb⟩ := hmb
      unfold Ms.bad at hmb
      dsimp only at hmb
      have hm1 : 0 ≤ mt ∧ mt ≤ 9 ∧ 0 ≤ mu ∧ mu ≤ 2000000 := by omega
      obtain ⟨hm1, hm2, hm3, hm4⟩ := hm1
      clear hmb
      have HI2 := HI.out.scan (⟨msgB name n, v⟩ :: t) lo (hiB name) 1
      have HB := qbury_does q p since nn V (valR rows) C' (scnB (⟨msgB name n, v⟩ :: t) R' lo (hiB name) 1) name ⟨un, ut, ud⟩ ⟨n, mt, mu, mb⟩ (by dsimp only; omega) (by dsimp only; omega) (by omega) (by omega) HI.out.ups hud HS.out.rd HS.out.val (HI2.put _).val HI2.r40 HS.out.v6 hφ
      generalize scnB _ R' lo (hiB name) 1 = R2 at *
      unfold Ms.z at e
      generalize buryA (valR rows) C' R2 name ⟨un, ut, ud⟩ ⟨n, mt, mu, mb⟩ = b at *
      have HE := Lib.hid e
      clear e
      obtain ⟨ba, bc, br⟩ := b
      unfold Qu.v Ms.v at HB
      dsimp only at HB h5 HE
      rcases errV_or ba with ⟨h0, e⟩ | ⟨M, h0, e⟩
      · exact absurd h0 h5
      · rw [e] at HB
        have HV := Lib.hid e
        clear HI2 e h0 h1 h2 hL hL0 hks hle hlo hfr h5 hmm
        go_wp2_with (first | (go_at_call 128; (with_reducible apply Does.use hO (HFN); (focus exact tk_); clear hO; intro x9 w9 hO; dsimp only at hO ⊢; simp only [CA] at hO; ((try clear hf); have hf := fa_ hO))) | (go_at_call 129; (with_reducible apply Calls.mono (HMG _ (hφ _ (Own.immOf (φ := φ) hO pk_))); rintro e8 w8 ⟨rfl, hx8⟩; replace hO := hO.ext hx8; clear hx8; dsimp only; ((try clear hf); have hf := fa_ hO))) | (go_at_call 75; (with_reducible apply Calls.mono (HPT _); rintro e8 w8 ⟨rfl, hx8⟩; replace hO := hO.ext hx8; clear hx8; dsimp only; ((try clear hf); have hf := fa_ hO))) | (go_at_call 130; (with_reducible apply Does.use hO (HB); (focus exact tk_); clear hO; intro x9 w9 hO; dsimp only at hO ⊢; simp only [CA] at hO; ((try clear hf); have hf := fa_ hO))) | ((refine sy_ hO ?_); clear hO; intro w9 hO; (try dsimp only [List.set] at hO); ((try clear hf); have hf := fa_ hO)))
        all_goals try (exfalso; omega; done)
        go_ret
        rw [HE.out]
        dsimp only
        refine ⟨(), (by rw [HV.out]; rfl), ?_⟩
        (try simp only [CA])
        exact hO.cut sb_
    | @bury _ _ _ _ n v t hL h1 hn2 hv h2 h3 h4 h5 h =>
      have HFN := first_some q p since nn n V C' R' name frm lo (hiB name) v t hle rfl (hL0.trans hL) HS.out.nd (by omega) (by omega) HS.out.vl HS.out.v1 (by omega) (hL ▸ hks) h1 hn2 (by omega) hφ
      have HMG : ∀ w, LibOk w → Calls Tryz.prog 129 #[.string name, .int .i64 (n : Int)] w fun e w' => e = .returned (.string (msgB name n)) ∧ Ext w w' := fun w h => message_any name n w (by omega) h (by omega)
      have HPT : ∀ w, Calls Tryz.prog 75 #[.string (msgB name n)] w fun e w' => e = .returned (.agg #[.string (msgB name n), .string (msgB name n ++ nul)]) ∧ Ext w w' := fun w => point_any (msgB name n) w (by rw [msgB_size]; omega)
      have hkn : k ≤ n := hlo.num hn2 (List.mem_filter.1 (show (⟨msgB name n, v⟩ : Rw) ∈ inR lo (hiB name) (C'.foldl appR rows) by rw [hL]; exact List.mem_cons_self ..)).2
      have hfr2 : FrmOk name (msgB name n ++ nul) (n + 1) := .inr ⟨n, hn2, rfl, rfl⟩
      have HF2 := Lib.hid hfr2
      have HM2 := Lib.hid (show measF name (msgB name n ++ nul) < measF name frm by rw [hfr.meas, hfr2.meas]; have := hfr2; omega)
      clear hfr2
      have hmm : (msOf n v).1.num = n ∧ ¬ (msOf n v).1.bad := by
        rcases msOf_cases n v with ⟨m, hm, hmn, hmb, _⟩ | ⟨hm, _⟩
        · rw [hm]; exact ⟨hmn, hmb⟩
        · rw [hm] at h2; cases h2
      rw [h2, show errV 0 = .nilIface from rfl, decide_eq_true (show (0 : Nat) = 0 from rfl)] at HFN
      generalize (msOf n v).1 = mm at *
      obtain ⟨mn, mt, mu, mb⟩ := mm
      obtain ⟨hmn, hmb⟩ := hmm
      dsimp only at hmn
      subst hmn
      unfold Ms.v at HFN
      dsimp only at *
      have hmm : ¬ Ms.bad ⟨n, mt, mu, mb⟩ := hmb
      unfold Ms.bad at hmb
      dsimp only at hmb
      have hm1 : 0 ≤ mt ∧ mt ≤ 9 ∧ 0 ≤ mu ∧ mu ≤ 2000000 := by omega
      obtain ⟨hm1, hm2, hm3, hm4⟩ := hm1
      clear hmb
      have HI1 := HI.out.scan (⟨msgB name n, v⟩ :: t) lo (hiB name) 1
      have HB := qbury_does q p since nn V (valR rows) C' (scnB (⟨msgB name n, v⟩ :: t) R' lo (hiB name) 1) name ⟨un, ut, ud⟩ ⟨n, mt, mu, mb⟩ (by dsimp only; omega) (by dsimp only; omega) (by omega) (by omega) HI.out.ups hud HS.out.rd HS.out.val (HI1.put _).val HI1.r40 HS.out.v6 hφ
      have HI2 := Lib.hid (HI1.bury (valR rows) name ⟨un, ut, ud⟩ ⟨n, mt, mu, mb⟩)
      have HR2 := Lib.hid h
      generalize scnB _ R' lo (hiB name) 1 = R2 at *
      generalize buryA (valR rows) C' R2 name ⟨un, ut, ud⟩ ⟨n, mt, mu, mb⟩ = b at *
      obtain ⟨ba, bc, br⟩ := b
      unfold Qu.v Ms.v at HB
      dsimp only at HB h5 HI2 HR2
      rw [h5, show errV 0 = .nilIface from rfl] at HB
      clear HI1 h h1 h2 hL hL0 hks hle hlo hfr h5 hmm
      go_wp2_with (first | (go_at_call 128; (with_reducible apply Does.use hO (HFN); (focus exact tk_); clear hO; intro x9 w9 hO; dsimp only at hO ⊢; simp only [CA] at hO; ((try clear hf); have hf := fa_ hO))) | (go_at_call 129; (with_reducible apply Calls.mono (HMG _ (hφ _ (Own.immOf (φ := φ) hO pk_))); rintro e8 w8 ⟨rfl, hx8⟩; replace hO := hO.ext hx8; clear hx8; dsimp only; ((try clear hf); have hf := fa_ hO))) | (go_at_call 75; (with_reducible apply Calls.mono (HPT _); rintro e8 w8 ⟨rfl, hx8⟩; replace hO := hO.ext hx8; clear hx8; dsimp only; ((try clear hf); have hf := fa_ hO))) | (go_at_call 130; (with_reducible apply Does.use hO (HB); (focus exact tk_); clear hO; intro x9 w9 hO; dsimp only at hO ⊢; simp only [CA] at hO; ((try clear hf); have hf := fa_ hO))) | ((refine sy_ hO ?_); clear hO; intro w9 hO; (try dsimp only [List.set] at hO); ((try clear hf); have hf := fa_ hO)))
      all_goals try (exfalso; omega; done)
      exact ⟨⟨bc, br, msgB name n ++ nul, rfl, HI2, Lib.hid ⟨n + 1, _, HF2.out, .inr ⟨n, hn2, rfl, rfl⟩, if_pos (lo_msg HNM.out n), HR2.out⟩, by (try simp only [CA]); exact hO.cut sb_⟩, HM2.out⟩
    | @take _ _ _ _ n v t hL h1 hn2 hv h2 h3 h4 e =>
      have HFN := first_some q p since nn n V C' R' name frm lo (hiB name) v t hle rfl (hL0.trans hL) HS.out.nd (by omega) (by omega) HS.out.vl HS.out.v1 (by omega) (hL ▸ hks) h1 hn2 (by omega) hφ
      have HMG : ∀ w, LibOk w → Calls Tryz.prog 129 #[.string name, .int .i64 (n : Int)] w fun e w' => e = .returned (.string (msgB name n)) ∧ Ext w w' := fun w h => message_any name n w (by omega) h (by omega)
      have HPT : ∀ w, Calls Tryz.prog 75 #[.string (msgB name n)] w fun e w' => e = .returned (.agg #[.string (msgB name n), .string (msgB name n ++ nul)]) ∧ Ext w w' := fun w => point_any (msgB name n) w (by rw [msgB_size]; omega)
      have hkn : k ≤ n := hlo.num hn2 (List.mem_filter.1 (show (⟨msgB name n, v⟩ : Rw) ∈ inR lo (hiB name) (C'.foldl appR rows) by rw [hL]; exact List.mem_cons_self ..)).2
      have hfr2 : FrmOk name (msgB name n ++ nul) (n + 1) := .inr ⟨n, hn2, rfl, rfl⟩
      have HF2 := Lib.hid hfr2
      have HM2 := Lib.hid (show measF name (msgB name n ++ nul) < measF name frm by rw [hfr.meas, hfr2.meas]; have := hfr2; omega)
      clear hfr2
      have hmm : (msOf n v).1.num = n ∧ ¬ (msOf n v).1.bad := by
        rcases msOf_cases n v with ⟨m, hm, hmn, hmb, _⟩ | ⟨hm, _⟩
        · rw [hm]; exact ⟨hmn, hmb⟩
        · rw [hm] at h2; cases h2
      rw [h2, show errV 0 = .nilIface from rfl, decide_eq_true (show (0 : Nat) = 0 from rfl)] at HFN
      generalize (msOf n v).1 = mm at *
      obtain ⟨mn, mt, mu, mb⟩ := mm
      obtain ⟨hmn, hmb⟩ := hmm
      dsimp only at hmn
      subst hmn
      unfold Ms.v at HFN
      dsimp only at *
      have hmm : ¬ Ms.bad ⟨n, mt, mu, mb⟩ := hmb
      unfold Ms.bad at hmb
      dsimp only at hmb
      have hm1 : 0 ≤ mt ∧ mt ≤ 9 ∧ 0 ≤ mu ∧ mu ≤ 2000000 := by omega
      obtain ⟨hm1, hm2, hm3, hm4⟩ := hm1
      clear hmb
      have HST := qset_does q p since C' (scnB (⟨msgB name n, v⟩ :: t) R' lo (hiB name) 1) name ((⟨n, mt, mu, mb⟩ : Ms).more (now + long)) (by unfold Ms.more; dsimp only; omega) (by omega) (by omega) HI.out.ups hφ
      generalize scnB _ R' lo (hiB name) 1 = R2 at *
      unfold Ms.more at *
      dsimp only at HST e
      generalize setL C' name ⟨n, mt + 1, now + long, mb⟩ = C2 at *
      generalize setN C' name ⟨n, mt + 1, now + long, mb⟩ = N at *
      unfold Ms.v at HST
      dsimp only at HST
      have HE := Lib.hid e
      obtain ⟨ev, hev⟩ : ∃ ev, errV N = ev := ⟨_, rfl⟩
      have HV := Lib.hid hev
      rw [hev] at HST
      clear hev e h1 h2 hL hL0 hks hle hlo hfr hmm
      go_wp2_with (first | (go_at_call 128; (with_reducible apply Does.use hO (HFN); (focus exact tk_); clear hO; intro x9 w9 hO; dsimp only at hO ⊢; simp only [CA] at hO; ((try clear hf); have hf := fa_ hO))) | (go_at_call 129; (with_reducible apply Calls.mono (HMG _ (hφ _ (Own.immOf (φ := φ) hO pk_))); rintro e8 w8 ⟨rfl, hx8⟩; replace hO := hO.ext hx8; clear hx8; dsimp only; ((try clear hf); have hf := fa_ hO))) | (go_at_call 75; (with_reducible apply Calls.mono (HPT _); rintro e8 w8 ⟨rfl, hx8⟩; replace hO := hO.ext hx8; clear hx8; dsimp only; ((try clear hf); have hf := fa_ hO))) | (go_at_call 131; (with_reducible apply Does.use hO (HST); (focus exact tk_); clear hO; intro x9 w9 hO; dsimp only at hO ⊢; simp only [CA] at hO; ((try clear hf); have hf := fa_ hO))) | ((refine sy_ hO ?_); clear hO; intro w9 hO; (try dsimp only [List.set] at hO); ((try clear hf); have hf := fa_ hO)))
      all_goals try (exfalso; omega; done)
      go_ret
      rw [HE.out]
      dsimp only
      refine ⟨(), (by rw [HV.out]; rfl), ?_⟩
      (try simp only [CA])
      exact hO.cut sb_
end Go.Proofs.YtmknhibaoopjjaaGreatDoor
namespace Go.Proofs.YtmknhibaoopjjaaGreatDoor
open Go.RowKit
/-- What Receive answers, the changes, what was read. -/
inductive RecvAns (rows : List Rw) (C : List Ch) (R : List Sp) (name : ByteArray) (now long : Int) : Ms × Nat × List Ch × List Sp → Prop
  | nofind {res} (h : (findN (valR rows (queB name)) C R name).2 ≠ 0) (e : res = (Ms.z, (findN (valR rows (queB name)) C R name).2, C, findR C R name)) : RecvAns rows C R name now long res
  | notime {res} (h0 : (findN (valR rows (queB name)) C R name).2 = 0) (h : timeN [now, long] ≠ 0) (e : res = (Ms.z, 1, C, findR C R name)) : RecvAns rows C R name now long res
  | fail {res r} (h0 : (findN (valR rows (queB name)) C R name).2 = 0) (ht : timeN [now, long] = 0) (hr : Recv rows name (findN (valR rows (queB name)) C R name).1 now long C (findR C R name) (loB name) r) (hb : r.2.1 ≠ 0) (e : res = (Ms.z, r.2.1, C, r.2.2.2)) : RecvAns rows C R name now long res
  | done {res} (h0 : (findN (valR rows (queB name)) C R name).2 = 0) (ht : timeN [now, long] = 0) (hr : Recv rows name (findN (valR rows (queB name)) C R name).1 now long C (findR C R name) (loB name) res) (hb : res.2.1 = 0) : RecvAns rows C R name now long res
theorem timeN_two {a b : Int} (h : timeN [a, b] = 0) : 0 ≤ a ∧ a ≤ 1000000 ∧ 0 ≤ b ∧ b ≤ 1000000 := by
  unfold timeN at h
  split at h
  · cases h
  · rename_i h1
    unfold badT at h1
    simp at h1
    omega
theorem time_two {b : Nat} {t : TypeId} {x y : Int} {w : World} (h : (Var b [.int .i64 x, .int .i64 y] t).facts w) : ValsAt w (some ⟨b, 0, none⟩) ([x, y].map (Value.int .i64)) :=
  .inr ⟨b, 0, rfl, fun i hi => Var.at (t := t) h i _ (List.getElem?_eq_getElem hi)⟩
set_option maxHeartbeats 4000000 in
set_option maxRecDepth 100000 in
theorem allRecv_does (b0 b1 b2 b3 b4 b5 q p since nn : Nat) (V : List (ByteArray × List Vn)) (rows : List Rw) (hs : Seen V since rows) (C : List Ch) (R : List Sp) (name : ByteArray) (u : Qu) (now long : Int) (res : Ms × Nat × List Ch × List Sp)
    (hr : Recv rows name u now long C R (loB name) res) (hI : QInv C R) (hn : NameOk name) (hud : u.dead.size ≤ 6) (hn0 : 0 ≤ now) (hn1 : now ≤ 1000000) (hl0 : 0 ≤ long) (hl1 : long ≤ 1000000) {φ : World → Prop} (hφ : ∀ w, φ w → LibOk w) :
    Does Tryz.prog 124 #[.pointer (some ⟨q, 0, none⟩), .func (.func 127) #[] #[.pointer (some ⟨b0, 0, none⟩), .pointer (some ⟨b1, 0, none⟩), .pointer (some ⟨b2, 0, none⟩), .pointer (some ⟨b3, 0, none⟩), .pointer (some ⟨b4, 0, none⟩), .pointer (some ⟨b5, 0, none⟩)]] [Var b0 [.pointer (some ⟨q, 0, none⟩)] 27, Var b1 [.string name] 9, Var b2 [.int .i64 now] 3, Var b3 [.int .i64 u.next, .int .i64 u.tries, .string u.dead] 187, Var b4 [.int .i64 long] 3, Var b5 (msC Ms.z) 104, ViewR q p since C R, VerR p nn V, .imm φ]
      (fun _ : Unit => (errV res.2.1, [Var b0 [.pointer (some ⟨q, 0, none⟩)] 27, Var b1 [.string name] 9, Var b2 [.int .i64 now] 3, Var b3 [.int .i64 u.next, .int .i64 u.tries, .string u.dead] 187, Var b4 [.int .i64 long] 3, Var b5 (msC res.1) 104, ViewR q p since (if res.2.1 = 0 then res.2.2.1 else C) res.2.2.2, VerR p nn V, .imm φ])) := by
  have hc12 := hI.c12
  have H1 := recv1_does b0 b1 b2 b3 b4 b5 q p since nn V rows hs C R name u now long res hr hI hn hud hn0 hn1 hl0 hl1 hφ
  have HMK := vMark_does q p since C R (by omega)
  have HBK := fun C' R' a c => vBack_does q p since C' R' a c C (by omega)
  clear hs hr hI hn
  obtain ⟨⟨s1, s2, s3, s4⟩, sn, sc, sr⟩ := res
  obtain ⟨un, ut, ud⟩ := u
  unfold msC Ms.z at *
  dsimp only at H1 ⊢
  rcases errV_or sn with ⟨h0, e⟩ | ⟨M, h0, e⟩ <;> rw [e] at H1 ⊢ <;> clear e
  · rw [if_pos h0]
    intro S W w L0 hO; simp only [CA] at hO
    ((try clear hf); have hf := fa_ hO)
    go_enter Tryz.func124, Tryz.ntmps124
    go_wp2_with (first | (go_at_call 18; (with_reducible apply Does.use hO (HMK); (focus exact tk_); clear hO; intro x9 w9 hO; dsimp only at hO ⊢; simp only [CA] at hO; ((try clear hf); have hf := fa_ hO); (obtain ⟨ma, mc⟩ := x9; dsimp only at hO ⊢; ((try clear hf); have hf := fa_ hO)))) | (go_at_call 127; (with_reducible apply Does.use hO (H1); (focus exact tk_); clear hO; intro x9 w9 hO; dsimp only at hO ⊢; simp only [CA] at hO; ((try clear hf); have hf := fa_ hO))) | ((refine sy_ hO ?_); clear hO; intro w9 hO; (try dsimp only [List.set] at hO); ((try clear hf); have hf := fa_ hO)))
    go_ret
    refine ⟨(), rfl, ?_⟩
    (try simp only [CA])
    exact hO.cut sb_
  · rw [if_neg h0]
    intro S W w L0 hO; simp only [CA] at hO
    ((try clear hf); have hf := fa_ hO)
    go_enter Tryz.func124, Tryz.ntmps124
    go_upto_region 4 with (first | (go_at_call 18; (with_reducible apply Does.use hO (HMK); (focus exact tk_); clear hO; intro x9 w9 hO; dsimp only at hO ⊢; simp only [CA] at hO; ((try clear hf); have hf := fa_ hO); (obtain ⟨ma, mc⟩ := x9; dsimp only at hO ⊢; ((try clear hf); have hf := fa_ hO)))) | (go_at_call 127; (with_reducible apply Does.use hO (H1); (focus exact tk_); clear hO; intro x9 w9 hO; dsimp only at hO ⊢; simp only [CA] at hO; ((try clear hf); have hf := fa_ hO))) | ((refine sy_ hO ?_); clear hO; intro w9 hO; (try dsimp only [List.set] at hO); ((try clear hf); have hf := fa_ hO)))
    have hO := hO.rowCi (a := ma) (C := C) pk_
    ((try clear hf); have hf := fa_ hO)
    go_wp2_with (first | (go_at_call 26; (with_reducible apply Does.use hO (HBK _ _ _ _); (focus exact tk_); clear hO; intro x9 w9 hO; dsimp only at hO ⊢; simp only [CA] at hO; ((try clear hf); have hf := fa_ hO))) | ((refine sy_ hO ?_); clear hO; intro w9 hO; (try dsimp only [List.set] at hO); ((try clear hf); have hf := fa_ hO)))
    go_ret
    refine ⟨(), rfl, ?_⟩
    (try simp only [CA])
    exact hO.cut sb_
set_option maxHeartbeats 8000000 in
set_option maxRecDepth 100000 in
theorem qReceive_does (q p since nn : Nat) (V : List (ByteArray × List Vn)) (rows : List Rw) (hs : Seen V since rows) (C : List Ch) (R : List Sp) (name : ByteArray) (now long : Int) (res : Ms × Nat × List Ch × List Sp)
    (hr : RecvAns rows C R name now long res) (hI : QInv C R) (hk : name.size ≤ 200) {φ : World → Prop} (hφ : ∀ w, φ w → LibOk w) :
    Does Tryz.prog 56 #[.pointer (some ⟨q, 0, none⟩), .string name, .int .i64 now, .int .i64 long] [ViewR q p since C R, VerR p nn V, .imm φ]
      (fun _ : Unit => (.tuple #[res.1.v, errV res.2.1], [ViewR q p since res.2.2.1 res.2.2.2, VerR p nn V, .imm φ])) := by
  have hc12 := hI.c12
  have HF := qFind_does q p since nn V C R name _ (hs.rd _) (hs.val _) hI.val hk (by omega) hI.ups hI.r40 hs.v6 hφ
  have HTM := fun w b (h : (Var b [.int .i64 now, .int .i64 long] 3).facts w) => time_any (some ⟨b, 0, none⟩) 2 2 [now, long] w rfl (by omega) (time_two h)
  have hok := findN_ok (y := valR rows (queB name)) (C := C) (R := R) (name := name)
  have hAL := fun (b0 b1 b2 b3 b4 b5 : Nat) (u : Qu) r h1 h2 h3 h4 h5 h6 h7 => allRecv_does b0 b1 b2 b3 b4 b5 q p since nn V rows hs C (findR C R name) name u now long r h1 (hI.find name) h2 h3 h4 h5 h6 h7 hφ
  unfold Qu.v at HF
  cases hr with
  | nofind h e =>
    subst e
    generalize findN (valR rows (queB name)) C R name = f at *
    generalize findR C R name = R' at *
    obtain ⟨⟨un, ut, ud⟩, f2⟩ := f
    unfold Ms.v Ms.z
    dsimp only at HF h ⊢
    rcases errV_or f2 with ⟨h0, e⟩ | ⟨M, h0, e⟩
    · exact absurd h0 h
    · rw [e] at HF ⊢
      clear hAL hok HTM hs hI h0 h e
      intro S W w L0 hO; simp only [CA] at hO
      ((try clear hf); have hf := fa_ hO)
      go_enter Tryz.func56, Tryz.ntmps56
      go_wp2_with (first | (go_at_call 115; (with_reducible apply Does.use hO (HF); (focus exact tk_); clear hO; intro x9 w9 hO; dsimp only at hO ⊢; simp only [CA] at hO; ((try clear hf); have hf := fa_ hO))) | ((refine sy_ hO ?_); clear hO; intro w9 hO; (try dsimp only [List.set] at hO); ((try clear hf); have hf := fa_ hO)))
      ((refine bodyPost_run rfl fun K hK => ?_; simp [results, Tryz.results56, go_sem, hf]; refine hK _ ⟨(), ?_, ?_⟩); (focus rfl); (focus ((try simp only [CA]); exact hO.cut sb_)))
  | notime h0 h e =>
    subst e
    have h1 : timeN [now, long] = 1 := by have := timeN_le [now, long]; omega
    rw [h1] at HTM
    generalize findN (valR rows (queB name)) C R name = f at *
    generalize findR C R name = R' at *
    obtain ⟨⟨un, ut, ud⟩, f2⟩ := f
    unfold Ms.v Ms.z
    dsimp only at HF h0 ⊢
    subst h0
    rw [show errV 0 = .nilIface from rfl] at HF
    rw [show errV 1 = .iface 127 (.int .i64 1) from rfl] at HTM ⊢
    clear hAL hok hs hI h h1
    intro S W w L0 hO; simp only [CA] at hO
    ((try clear hf); have hf := fa_ hO)
    go_enter Tryz.func56, Tryz.ntmps56
    go_wp2_with (first | (go_at_call 115; (with_reducible apply Does.use hO (HF); (focus exact tk_); clear hO; intro x9 w9 hO; dsimp only at hO ⊢; simp only [CA] at hO; ((try clear hf); have hf := fa_ hO))) | (go_at_call 123; (with_reducible apply Calls.mono (HTM _ _ (hO.factOf (r := Var _ [.int .i64 now, .int .i64 long] 3) pk_)); rintro e8 w8 ⟨rfl, hx8⟩; replace hO := hO.ext hx8; clear hx8; dsimp only; ((try clear hf); have hf := fa_ hO))) | ((refine sy_ hO ?_); clear hO; intro w9 hO; (try dsimp only [List.set] at hO); ((try clear hf); have hf := fa_ hO)))
    ((refine bodyPost_run rfl fun K hK => ?_; simp [results, Tryz.results56, go_sem, hf]; refine hK _ ⟨(), ?_, ?_⟩); (focus rfl); (focus ((try simp only [CA]); exact hO.cut sb_)))
  | @fail r h0 ht hr hb e =>
    subst e
    obtain ⟨_, _, hd, _, hn⟩ := hok h0
    obtain ⟨t0, t1, t2, t3⟩ := timeN_two ht
    have HAL := fun (b0 b1 b2 b3 b4 b5 : Nat) => hAL b0 b1 b2 b3 b4 b5 _ r hr hn hd t0 t1 t2 t3
    rw [ht, show errV 0 = .nilIface from rfl] at HTM
    clear hAL hok hs hI hr hd hn
    generalize findN (valR rows (queB name)) C R name = f at *
    generalize findR C R name = R' at *
    obtain ⟨⟨un, ut, ud⟩, f2⟩ := f
    obtain ⟨⟨s1, s2, s3, s4⟩, sn, sc, sr⟩ := r
    unfold msC at HAL
    unfold Ms.z at *
    unfold Ms.v
    dsimp only at HF h0 hb HAL ⊢
    subst h0
    rw [show errV 0 = .nilIface from rfl] at HF
    rw [if_neg hb] at HAL
    rcases errV_or sn with ⟨h0, e⟩ | ⟨M, h0, e⟩
    · exact absurd h0 hb
    · rw [e] at HAL ⊢
      clear e h0 hb ht
      intro S W w L0 hO; simp only [CA] at hO
      ((try clear hf); have hf := fa_ hO)
      go_enter Tryz.func56, Tryz.ntmps56
      go_wp2_with (first | (go_at_call 115; (with_reducible apply Does.use hO (HF); (focus exact tk_); clear hO; intro x9 w9 hO; dsimp only at hO ⊢; simp only [CA] at hO; ((try clear hf); have hf := fa_ hO))) | (go_at_call 123; (with_reducible apply Calls.mono (HTM _ _ (hO.factOf (r := Var _ [.int .i64 now, .int .i64 long] 3) pk_)); rintro e8 w8 ⟨rfl, hx8⟩; replace hO := hO.ext hx8; clear hx8; dsimp only; ((try clear hf); have hf := fa_ hO))) | (go_at_call 124; (with_reducible apply Does.use hO (HAL _ _ _ _ _ _); (focus exact tk_); clear hO; intro x9 w9 hO; dsimp only at hO ⊢; simp only [CA] at hO; ((try clear hf); have hf := fa_ hO))) | ((refine sy_ hO ?_); clear hO; intro w9 hO; (try dsimp only [List.set] at hO); ((try clear hf); have hf := fa_ hO)))
      ((refine bodyPost_run rfl fun K hK => ?_; simp [results, Tryz.results56, go_sem, hf]; refine hK _ ⟨(), ?_, ?_⟩); (focus rfl); (focus ((try simp only [CA]); exact hO.cut sb_)))
  | done h0 ht hr hb =>
    obtain ⟨_, _, hd, _, hn⟩ := hok h0
    obtain ⟨t0, t1, t2, t3⟩ := timeN_two ht
    have HAL := fun (b0 b1 b2 b3 b4 b5 : Nat) => hAL b0 b1 b2 b3 b4 b5 _ res hr hn hd t0 t1 t2 t3
    rw [ht, show errV 0 = .nilIface from rfl] at HTM
    clear hAL hok hs hI hr hd hn
    generalize findN (valR rows (queB name)) C R name = f at *
    generalize findR C R name = R' at *
    obtain ⟨⟨un, ut, ud⟩, f2⟩ := f
    obtain ⟨⟨s1, s2, s3, s4⟩, sn, sc, sr⟩ := res
    unfold msC Ms.z at HAL
    unfold Ms.v
    dsimp only at HF h0 hb HAL ⊢
    subst h0 hb
    rw [if_pos rfl] at HAL
    rw [show errV 0 = .nilIface from rfl] at HF HAL ⊢
    clear ht
    intro S W w L0 hO; simp only [CA] at hO
    ((try clear hf); have hf := fa_ hO)
    go_enter Tryz.func56, Tryz.ntmps56
    go_wp2_with (first | (go_at_call 115; (with_reducible apply Does.use hO (HF); (focus exact tk_); clear hO; intro x9 w9 hO; dsimp only at hO ⊢; simp only [CA] at hO; ((try clear hf); have hf := fa_ hO))) | (go_at_call 123; (with_reducible apply Calls.mono (HTM _ _ (hO.factOf (r := Var _ [.int .i64 now, .int .i64 long] 3) pk_)); rintro e8 w8 ⟨rfl, hx8⟩; replace hO := hO.ext hx8; clear hx8; dsimp only; ((try clear hf); have hf := fa_ hO))) | (go_at_call 124; (with_reducible apply Does.use hO (HAL _ _ _ _ _ _); (focus exact tk_); clear hO; intro x9 w9 hO; dsimp only at hO ⊢; simp only [CA] at hO; ((try clear hf); have hf := fa_ hO))) | ((refine sy_ hO ?_); clear hO; intro w9 hO; (try dsimp only [List.set] at hO); ((try clear hf); have hf := fa_ hO)))
    ((refine bodyPost_run rfl fun K hK => ?_; simp [results, Tryz.results56, go_sem, hf]; refine hK _ ⟨(), ?_, ?_⟩); (focus rfl); (focus ((try simp only [CA]); exact hO.cut sb_)))
end Go.Proofs.YtmknhibaoopjjaaGreatDoor
namespace Go.Proofs.YtmknhibaoopjjaaGreatDoor
open Go.RowKit
theorem itoaB_inj {a b : Nat} (h : itoaB a = itoaB b) : a = b := by
  have h2 := congrArg (fun s : ByteArray => valL s.data.toList) h
  simp only [itoaB_list, valL_dec] at h2
  exact h2
theorem rowS_inj {a b a' b' : Nat} {d d' : ByteArray} (h : rowS a b d = rowS a' b' d') : a = a' ∧ b = b' ∧ d = d' := by
  have h1 := split2_row a b d
  rw [h, split2_row] at h1
  injection h1 with e1 h1
  injection h1 with e2 h1
  injection h1 with e3 _
  exact ⟨(itoaB_inj e1).symm, (itoaB_inj e2).symm, e3.symm⟩
theorem Qu.txt_ok {u : Qu} (h : u.ok) : u.txt = (rowS u.next.toNat u.tries.toNat u.dead, 0) := by
  unfold Qu.txt; rw [if_neg h.1, if_pos h.2]
theorem Ms.txt_ok {m : Ms} (h : ¬ m.bad) : m.txt = (rowS m.tries.toNat m.until_.toNat m.body, 0) := by
  unfold Ms.txt; rw [if_neg h]
theorem quOf_txt {u : Qu} (h : u.ok) : quOf u.txt.1 = (u, 0) := by
  rw [Qu.txt_ok h]
  have hb := h.1
  unfold Qu.bad at hb
  rcases quOf_cases (rowS u.next.toNat u.tries.toNat u.dead) with ⟨q, hq, hok, _, a, b, ha, hb2, hr⟩ | ⟨_, hn⟩
  · rw [hq]
    obtain ⟨e1, e2, e3⟩ := rowS_inj hr.1
    obtain ⟨q1, q2, q3⟩ := q
    obtain ⟨u1, u2, u3⟩ := u
    dsimp only at *
    subst ha hb2 e3
    have h1 : (a : Int) = u1 := by omega
    have h2 : (b : Int) = u2 := by omega
    rw [h1, h2]
  · refine absurd ⟨_, _, _, rfl, ?_⟩ hn
    refine ⟨by omega, by omega, by omega, h.2⟩
theorem msOf_txt {m : Ms} (h : ¬ m.bad) : msOf m.num m.txt.1 = (m, 0) := by
  rw [Ms.txt_ok h]
  have hb := h
  unfold Ms.bad at hb
  rcases msOf_cases m.num (rowS m.tries.toNat m.until_.toNat m.body) with ⟨q, hq, hn, _, a, b, ha, hb2, hr⟩ | ⟨_, hn⟩
  · rw [hq]
    obtain ⟨e1, e2, e3⟩ := rowS_inj hr.1
    obtain ⟨q0, q1, q2, q3⟩ := q
    obtain ⟨u0, u1, u2, u3⟩ := m
    dsimp only at *
    subst ha hb2 e3 hn
    have h1 : (a : Int) = u1 := by omega
    have h2 : (b : Int) = u2 := by omega
    rw [h1, h2]
  · refine absurd ⟨_, _, _, rfl, ?_⟩ hn
    refine ⟨by omega, by omega, by omega⟩
theorem Qu.txt40 {u : Qu} (h : u.ok) : u.txt.1.size ≤ 40 := by
  rw [Qu.txt_ok h]
  have hb := h.1
  unfold Qu.bad at hb
  have h1 := itoaB_size 5 u.next.toNat (by omega)
  have h2 := itoaB_size 0 u.tries.toNat (by omega)
  have h3 : u.dead.size ≤ 6 := by
    rcases h.2 with h3 | h3
    · omega
    · exact h3.2.1
  have := rowS_size u.next.toNat u.tries.toNat u.dead
  dsimp only
  omega
theorem Ms.txt40 {m : Ms} (h : ¬ m.bad) : m.txt.1.size ≤ 40 := by
  rw [Ms.txt_ok h]
  unfold Ms.bad at h
  have h1 := itoaB_size 0 m.tries.toNat (by omega)
  have h2 := itoaB_size 6 m.until_.toNat (by omega)
  have := rowS_size m.tries.toNat m.until_.toNat m.body
  dsimp only
  omega
theorem chN_put {k v : ByteArray} (hk : KeyOk k) (hv : v.size ≤ 40) : chN ⟨k, v, false⟩ = 0 := by
  unfold chN; rw [if_pos hk, if_neg (fun h => by cases h.1), if_neg (by dsimp only; omega)]
theorem chN_del {k : ByteArray} (hk : KeyOk k) : chN ⟨k, ⟨#[]⟩, true⟩ = 0 := by
  unfold chN; rw [if_pos hk, if_neg (fun h => h.2 rfl), if_neg (by show ¬ 40 < 0; omega)]
/-- At most as many as there may be. -/
theorem nodup_len {α : Type} [DecidableEq α] : ∀ (l K : List α), l.Nodup → (∀ x ∈ l, x ∈ K) → l.length ≤ K.length
  | [], _, _, _ => Nat.zero_le _
  | x :: l, K, h, hk => by
    obtain ⟨h1, h2⟩ := List.nodup_cons.1 h
    have h3 := nodup_len l (K.erase x) h2 fun y hy => (List.mem_erase_of_ne (fun e : y = x => h1 (by rw [← e]; exact hy))).2 (hk y (List.mem_cons_of_mem _ hy))
    have h4 := List.length_erase_of_mem (hk x (List.mem_cons_self ..))
    have h5 := List.length_pos_of_mem (hk x (List.mem_cons_self ..))
    rw [List.length_cons]
    omega
theorem Ups.nodup {C : List Ch} (h : Ups C) : (C.map Ch.key).Nodup := by
  rw [List.nodup_iff_pairwise_ne, List.pairwise_map]
  exact h.imp fun h => slt_ne h
/-- A deed over rows: its changes are of certain keys, what it sees is D, at most r spans were read. -/
structure Deed (rows : List Rw) (K : List ByteArray) (D : List Rw) (r : Nat) (C : List Ch) (R : List Sp) : Prop where
  inv : QInv C R
  keys : ∀ c ∈ C, c.key ∈ K
  see : C.foldl appR rows = D
  read : R.length ≤ r
theorem valR_apps {k : ByteArray} : ∀ {C : List Ch} {l : List Rw}, Ups C → RUps l → valR (C.foldl appR l) k = match findC C k with | some c => (if c.gone then (⟨#[]⟩, false) else (c.val, true)) | none => valR l k
  | [], _, _, _ => rfl
  | c :: C, l, hU, hl => by
    obtain ⟨h1, h2⟩ := List.pairwise_cons.1 hU
    have ih := valR_apps (k := k) (C := C) (l := appR l c) h2 (appF_ups hl)
    rw [List.foldl_cons, ih]
    unfold findC
    rw [List.find?_cons, valR_app hl]
    by_cases hk : c.key = k
    · have hn : C.find? (fun x => decide (x.key = k)) = none := List.find?_eq_none.2 fun x hx h => by
        have := slt_ne (h1 x hx)
        rw [hk, of_decide_eq_true h] at this
        exact this rfl
      rw [hn, if_pos hk, decide_eq_true hk]
    · rw [if_neg hk, decide_eq_false hk]
theorem apps_put {c : Ch} : ∀ {C : List Ch} {l : List Rw}, Ups C → RUps l → (putC C c).foldl appR l = appR (C.foldl appR l) c := by
  intro C l hU hl
  have h1 : RUps ((putC C c).foldl appR l) := apps_ups hl
  have h0 : RUps (C.foldl appR l) := apps_ups hl
  refine RUps.ext h1 (appF_ups h0) fun r => ?_
  have hv : ∀ (E : List Rw), RUps E → (r ∈ E ↔ valR E r.key = (r.val, true)) := fun E hE => by
    unfold valR
    constructor
    · intro hr
      have hf : E.find? (fun x => decide (x.key = r.key)) = some r := by
        cases hf : E.find? (fun x => decide (x.key = r.key)) with
        | none => exact absurd (List.find?_eq_none.1 hf r hr) (by simp)
        | some y =>
          have h2 : decide (y.key = r.key) = true := List.find?_some (p := fun x : Rw => decide (x.key = r.key)) hf
          have h3 := List.mem_of_find?_eq_some hf
          rw [hE.inj h3 hr (of_decide_eq_true h2)]
      rw [hf]
    · cases hf : E.find? (fun x => decide (x.key = r.key)) with
      | none => intro h; simp at h
      | some y =>
        intro h
        have h2 : decide (y.key = r.key) = true := List.find?_some (p := fun x : Rw => decide (x.key = r.key)) hf
        have h3 := List.mem_of_find?_eq_some hf
        have h4 : y.val = r.val := by injection h
        have : y = r := by
          obtain ⟨a, b⟩ := y
          obtain ⟨a', b'⟩ := r
          dsimp only at *
          rw [of_decide_eq_true h2, h4]
        rw [← this]; exact h3
  rw [hv _ h1, valR_apps (hU.put c) hl, hv (appR (C.foldl appR l) c) (appF_ups h0), valR_app h0, valR_apps hU hl]
  by_cases hk : c.key = r.key
  · rw [if_pos hk, ← hk, find_put]
  · rw [if_neg hk, find_put_other (fun e => hk e.symm)]
/-! One step after the other. -/
theorem noteN_free {R : List Sp} (s : Sp) (h : R.length < 40) : noteN R s = 0 := by
  unfold noteN
  split
  · rfl
  · rw [if_neg (by omega)]
theorem noteR_one (R : List Sp) (s : Sp) : (noteR R s).length ≤ R.length + 1 := by
  unfold noteR
  split
  · omega
  · split
    · omega
    · rw [List.length_append, List.length_singleton]; omega
theorem getB_one (C : List Ch) (R : List Sp) (k : ByteArray) : (getB C R k).length ≤ R.length + 1 := by
  unfold getB
  split
  · omega
  · split
    · omega
    · exact noteR_one _ _
variable {rows : List Rw} {K : List ByteArray} {D : List Rw} {r : Nat} {C : List Ch} {R : List Sp}
theorem Deed.more {r' : Nat} (h : Deed rows K D r C R) (hr : r ≤ r') : Deed rows K D r' C R := ⟨h.inv, h.keys, h.see, Nat.le_trans h.read hr⟩
theorem Deed.get_val (hr : QRows rows) (h : Deed rows K D r C R) {k : ByteArray} (hk : KeyOk k) (hl : r < 40) : getG (valR rows k) C R k = ((valR D k).1, (valR D k).2, 0) := by
  have hd := valR_apps (k := k) h.inv.ups hr.ups
  rw [h.see] at hd
  have h1 := h.read
  unfold getG
  rw [if_neg (by rw [keyN_yes hk]; simp)]
  cases hf : findC C k with
  | none => rw [hf] at hd; dsimp only at hd ⊢; rw [if_neg (by rw [noteN_free _ (by omega)]; simp), hd]
  | some c =>
    rw [hf] at hd
    dsimp only at hd ⊢
    cases hg : c.gone with
    | false => rw [hg] at hd; rw [hd]; rfl
    | true => rw [hg] at hd; rw [hd, chN_val (h.inv.good c (find_some_key hf).1) hg]; rfl
theorem Deed.get (h : Deed rows K D r C R) (k : ByteArray) : Deed rows K D (r + 1) C (getB C R k) :=
  ⟨h.inv.reads (getB_len h.inv.r40), h.keys, h.see, by have := h.read; have := getB_one C R k; omega⟩
theorem Deed.find_reads (h : Deed rows K D r C R) (name : ByteArray) : Deed rows K D (r + 1) C (findR C R name) := by
  unfold findR
  split
  · exact h.more (by omega)
  · exact h.get _
theorem Deed.find_yes (hr : QRows rows) (h : Deed rows K D r C R) {name : ByteArray} {u : Qu} (hn : NameOk name) (hv : valR D (queB name) = (u.txt.1, true)) (hu : u.ok) (hl : r < 40) : findN (valR rows (queB name)) C R name = (u, 0) := by
  unfold findN
  rw [if_neg (by simpa using hn), h.get_val hr (que_ok hn) hl, hv]
  dsimp only
  rw [if_neg (by simp), if_neg (by simp), quOf_txt hu]
theorem Deed.find_no (hr : QRows rows) (h : Deed rows K D r C R) {name : ByteArray} (hn : NameOk name) (hv : (valR D (queB name)).2 = false) (hl : r < 40) : findN (valR rows (queB name)) C R name = (Qu.z, 5) := by
  unfold findN
  rw [if_neg (by simpa using hn), h.get_val hr (que_ok hn) hl]
  dsimp only
  rw [if_neg (by simp), if_pos hv]
theorem Deed.put (hr : QRows rows) (h : Deed rows K D r C R) {c : Ch} (hc : chN c = 0) (hk : c.key ∈ K) (hK : K.length ≤ 12) : putN C c = 0 ∧ Deed rows K (appR D c) r (putL C c) R := by
  have hm : ∀ x ∈ putC C c, x.key ∈ K := fun x hx => by
    rcases mem_put hx with rfl | hx
    · exact hk
    · exact h.keys x hx
  have hlen : (putC C c).length ≤ 12 := by
    have := nodup_len ((putC C c).map Ch.key) K (h.inv.ups.put c).nodup fun k hk => by
      obtain ⟨x, hx, rfl⟩ := List.mem_map.1 hk
      exact hm x hx
    rw [List.length_map] at this
    omega
  have h0 : putN C c = 0 := by
    unfold putN
    rw [if_neg (by rw [hc]; simp), if_neg (by omega)]
  have e : putL C c = putC C c := by unfold putL; rw [if_pos h0]
  refine ⟨h0, h.inv.put c, ?_, ?_, h.read⟩
  · rw [e]; exact hm
  · rw [e, apps_put h.inv.ups hr.ups, h.see]
theorem Deed.putq (hr : QRows rows) (h : Deed rows K D r C R) {name : ByteArray} {u : Qu} (hn : NameOk name) (hu : u.ok) (hk : queB name ∈ K) (hK : K.length ≤ 12) : putqN C name u = 0 ∧ Deed rows K (appR D ⟨queB name, u.txt.1, false⟩) r (putqL C name u) R := by
  have h2 : u.txt.2 = 0 := by rw [Qu.txt_ok hu]
  obtain ⟨p1, p2⟩ := h.put (c := ⟨queB name, u.txt.1, false⟩) hr (chN_put (que_ok hn) (Qu.txt40 hu)) hk hK
  unfold putqN putqL
  rw [if_neg (by omega), if_neg (by omega)]
  exact ⟨p1, p2⟩
theorem Deed.set (hr : QRows rows) (h : Deed rows K D r C R) {name : ByteArray} {m : Ms} {n : Nat} (hn : NameOk name) (hm : ¬ m.bad) (hnum : m.num = n) (hn6 : n < 1000000) (hk : msgB name n ∈ K) (hK : K.length ≤ 12) : setN C name m = 0 ∧ Deed rows K (appR D ⟨msgB name n, m.txt.1, false⟩) r (setL C name m) R := by
  have h2 : m.txt.2 = 0 := by rw [Ms.txt_ok hm]
  obtain ⟨p1, p2⟩ := h.put (c := ⟨msgB name n, m.txt.1, false⟩) hr (chN_put (msg_ok hn hn6) (Ms.txt40 hm)) hk hK
  unfold setN setL
  rw [if_neg (by omega), if_neg (by omega), show m.num.toNat = n from by rw [hnum]; rfl]
  exact ⟨p1, p2⟩
theorem Deed.gone (hr : QRows rows) (h : Deed rows K D r C R) {name : ByteArray} {n : Nat} (hn : NameOk name) (hn6 : n < 1000000) (hk : msgB name n ∈ K) (hK : K.length ≤ 12) : putN C ⟨msgB name n, ⟨#[]⟩, true⟩ = 0 ∧ Deed rows K (appR D ⟨msgB name n, ⟨#[]⟩, true⟩) r (putL C ⟨msgB name n, ⟨#[]⟩, true⟩) R :=
  h.put hr (chN_del (msg_ok hn hn6)) hk hK
theorem Deed.create (hr : QRows rows) (h : Deed rows K D r C R) {name : ByteArray} {tries : Int} (hn : NameOk name) (hv : (valR D (queB name)).2 = false) (ht : 1 ≤ tries ∧ tries ≤ 9) (hk : queB name ∈ K) (hK : K.length ≤ 12) (hl : r < 40) :
    ∃ C' R', createA (valR rows) C R name tries ⟨#[]⟩ = (0, C', R') ∧ Deed rows K (appR D ⟨queB name, (Qu.txt ⟨0, tries, ⟨#[]⟩⟩).1, false⟩) (r + 1) C' R' := by
  have hu : Qu.ok ⟨0, tries, ⟨#[]⟩⟩ := ⟨by unfold Qu.bad; dsimp only; omega, .inl rfl⟩
  obtain ⟨p1, p2⟩ := (h.find_reads name).putq hr hn hu hk hK
  refine ⟨putqL C name ⟨0, tries, ⟨#[]⟩⟩, findR C R name, ?_, p2⟩
  unfold createA
  rw [h.find_no hr hn hv hl]
  dsimp only
  have hne : ¬ (⟨#[]⟩ : ByteArray) = name := fun e => by have := hn.1; rw [← e] at this; exact absurd this (by decide)
  rw [if_neg (by simp), if_neg (by simp), if_neg hne, if_pos rfl, p1]
theorem Deed.create_dead (hr : QRows rows) (h : Deed rows K D r C R) {name dead : ByteArray} {tries : Int} {u : Qu} (hn : NameOk name) (hd : NameOk dead) (hne : ¬ dead = name) (hv : (valR D (queB name)).2 = false) (hv2 : valR D (queB dead) = (u.txt.1, true)) (hu : u.ok) (ht : 1 ≤ tries ∧ tries ≤ 9) (hk : queB name ∈ K) (hK : K.length ≤ 12) (hl : r + 1 < 40) :
    ∃ C' R', createA (valR rows) C R name tries dead = (0, C', R') ∧ Deed rows K (appR D ⟨queB name, (Qu.txt ⟨0, tries, dead⟩).1, false⟩) (r + 2) C' R' := by
  have hu2 : Qu.ok ⟨0, tries, dead⟩ := ⟨by unfold Qu.bad; dsimp only; omega, .inr hd⟩
  have h1 := h.find_reads name
  obtain ⟨p1, p2⟩ := (h1.find_reads dead).putq hr hn hu2 hk hK
  refine ⟨putqL C name ⟨0, tries, dead⟩, findR C (findR C R name) dead, ?_, p2⟩
  unfold createA
  rw [h.find_no hr hn hv (by omega), h1.find_yes hr hd hv2 hu hl]
  dsimp only
  have hde : ¬ dead = ⟨#[]⟩ := fun e => by have := hd.1; rw [e] at this; exact absurd this (by decide)
  rw [if_neg (by simp), if_neg (by simp), if_neg hne, if_neg hde, if_neg (by simp), p1]
def Qu.up (u : Qu) : Qu := ⟨u.next + 1, u.tries, u.dead⟩
theorem Deed.sendA (hr : QRows rows) (h : Deed rows K D r C R) {name body : ByteArray} {u : Qu} {til : Int} {n : Nat} (hn : NameOk name) (hu : u.ok) (hnx : u.next = n) (hn6 : n < 999999) (hb : body.size ≤ 28) (ht : 0 ≤ til ∧ til ≤ 2000000) (hk : queB name ∈ K) (hk2 : msgB name n ∈ K) (hK : K.length ≤ 12) :
    ∃ C', sendA C name u body til = ((n : Int), 0, C') ∧ Deed rows K (appR (appR D ⟨msgB name n, (Ms.txt ⟨n, 0, til, body⟩).1, false⟩) ⟨queB name, u.up.txt.1, false⟩) r C' R := by
  have hm : ¬ Ms.bad ⟨0, 0, til, body⟩ := by unfold Ms.bad; dsimp only; omega
  have hm2 : (Ms.txt ⟨0, 0, til, body⟩) = Ms.txt ⟨n, 0, til, body⟩ := rfl
  have h2 : (Ms.txt ⟨0, 0, til, body⟩).2 = 0 := by rw [Ms.txt_ok hm]
  obtain ⟨p1, p2⟩ := h.put (c := ⟨msgB name n, (Ms.txt ⟨0, 0, til, body⟩).1, false⟩) hr (chN_put (msg_ok hn (by omega)) (Ms.txt40 hm)) hk2 hK
  have hu2 : u.up.ok := by
    refine ⟨?_, hu.2⟩
    have := hu.1
    unfold Qu.bad Qu.up at *
    dsimp only
    omega
  obtain ⟨q1, q2⟩ := p2.putq hr hn hu2 hk hK
  refine ⟨_, ?_, q2⟩
  unfold Go.Proofs.YtmknhibaoopjjaaGreatDoor.sendA
  rw [hnx]
  rw [show ((n : Nat) : Int).toNat = n from rfl, if_neg (by omega), if_neg (by omega), if_neg (by rw [p1]; simp)]
  unfold Qu.up at q1
  rw [hnx] at q1
  rw [q1]
  unfold Qu.up
  rw [hnx]
theorem timeN_ok {t : Int} (h : 0 ≤ t ∧ t ≤ 1000000) : timeN [t] = 0 := by
  unfold timeN badT
  rw [if_neg]
  simp
  omega
theorem Deed.send (hr : QRows rows) (h : Deed rows K D r C R) {name body : ByteArray} {u : Qu} {til : Int} {n : Nat} (hn : NameOk name) (hv : valR D (queB name) = (u.txt.1, true)) (hu : u.ok) (hnx : u.next = n) (hn6 : n < 999999) (hb : body.size ≤ 28) (ht : 0 ≤ til ∧ til ≤ 1000000) (hk : queB name ∈ K) (hk2 : msgB name n ∈ K) (hK : K.length ≤ 12) (hl : r < 40) :
    ∃ C', SendA (valR rows (queB name)) C R name body til = ((n : Int), 0, C') ∧ Deed rows K (appR (appR D ⟨msgB name n, (Ms.txt ⟨n, 0, til, body⟩).1, false⟩) ⟨queB name, u.up.txt.1, false⟩) (r + 1) C' (findR C R name) := by
  obtain ⟨C', e, hd⟩ := (h.find_reads name).sendA hr hn hu hnx hn6 hb (by omega : 0 ≤ til ∧ til ≤ 2000000) hk hk2 hK
  refine ⟨C', ?_, hd⟩
  unfold SendA
  rw [h.find_yes hr hn hv hu hl]
  dsimp only
  rw [if_neg (by simp), if_neg (by rw [timeN_ok ht]; simp), e]
  dsimp only
  rw [if_neg (by simp)]
/-- A scan of at most one. -/
theorem Deed.scn (h : Deed rows K D r C R) (L : List Rw) (lo hi : ByteArray) (hl : r < 40) : scnN L R lo hi 1 = 0 ∧ Deed rows K D (r + 1) C (scnB L R lo hi 1) := by
  have h1 := h.read
  constructor
  · unfold scnN; rw [if_neg (by omega)]; exact noteN_free _ (by omega)
  · refine ⟨h.inv.scan _ _ _ _, h.keys, h.see, ?_⟩
    unfold scnB
    rw [if_neg (by omega)]
    have := noteR_one R (scnS L lo hi 1)
    omega
theorem Deed.recv_empty (h : Deed rows K D r C R) {name lo : ByteArray} {u : Qu} {now long : Int} (hL : inR lo (hiB name) D = []) (hl : r < 40) : ∃ R', Recv rows name u now long C R lo (Ms.z, 12, C, R') ∧ Deed rows K D (r + 1) C R' := by
  obtain ⟨s1, s2⟩ := h.scn [] lo (hiB name) hl
  exact ⟨_, .empty (by rw [h.see]; exact hL) s1 rfl, s2⟩
theorem Deed.recv_skip (h : Deed rows K D r C R) {name lo : ByteArray} {u : Qu} {now long : Int} {m : Ms} {n : Nat} {t : List Rw} (hL : inR lo (hiB name) D = ⟨msgB name n, m.txt.1⟩ :: t) (hm : ¬ m.bad) (hnum : m.num = n) (hn6 : n < 1000000) (hw : now < m.until_) (hl : r < 40) :
    ∃ R', Deed rows K D (r + 1) C R' ∧ ∀ res, Recv rows name u now long C R' (msgB name n ++ nul) res → Recv rows name u now long C R lo res := by
  obtain ⟨s1, s2⟩ := h.scn (⟨msgB name n, m.txt.1⟩ :: t) lo (hiB name) hl
  have hp : msOf n m.txt.1 = (m, 0) := by rw [← hnum]; exact msOf_txt hm
  exact ⟨_, s2, fun res hr => .skip (by rw [h.see]; exact hL) s1 hn6 (Ms.txt40 hm) (by rw [hp]) (by rw [hp]; exact hw) hr⟩
theorem Deed.recv_take (hr : QRows rows) (h : Deed rows K D r C R) {name lo : ByteArray} {u : Qu} {now long : Int} {m : Ms} {n : Nat} {t : List Rw} (hn : NameOk name) (hL : inR lo (hiB name) D = ⟨msgB name n, m.txt.1⟩ :: t) (hm : ¬ m.bad) (hnum : m.num = n) (hn6 : n < 1000000) (hw : m.until_ ≤ now) (ht : m.tries < u.tries) (hm2 : ¬ (m.more (now + long)).bad) (hk : msgB name n ∈ K) (hK : K.length ≤ 12) (hl : r < 40) :
    ∃ C' R', Recv rows name u now long C R lo (m.more (now + long), 0, C', R') ∧ Deed rows K (appR D ⟨msgB name n, (m.more (now + long)).txt.1, false⟩) (r + 1) C' R' := by
  obtain ⟨s1, s2⟩ := h.scn (⟨msgB name n, m.txt.1⟩ :: t) lo (hiB name) hl
  have hp : msOf n m.txt.1 = (m, 0) := by rw [← hnum]; exact msOf_txt hm
  obtain ⟨q1, q2⟩ := s2.set hr hn hm2 (show (m.more (now + long)).num = n from hnum) hn6 hk hK
  refine ⟨_, _, .take (by rw [h.see]; exact hL) s1 hn6 (Ms.txt40 hm) (by rw [hp]) (by rw [hp]; dsimp only; omega) (by rw [hp]; dsimp only; omega) ?_, q2⟩
  rw [hp]
  dsimp only
  rw [q1]
theorem Deed.recv_bury (hr : QRows rows) (h : Deed rows K D r C R) {name lo : ByteArray} {u : Qu} {now long : Int} {m : Ms} {n : Nat} {t : List Rw} (hn : NameOk name) (hd : u.dead = ⟨#[]⟩) (hL : inR lo (hiB name) D = ⟨msgB name n, m.txt.1⟩ :: t) (hm : ¬ m.bad) (hnum : m.num = n) (hn6 : n < 1000000) (hw : m.until_ ≤ now) (ht : u.tries ≤ m.tries) (hk : msgB name n ∈ K) (hK : K.length ≤ 12) (hl : r < 40) :
    ∃ C' R', Deed rows K (appR D ⟨msgB name n, ⟨#[]⟩, true⟩) (r + 1) C' R' ∧ ∀ res, Recv rows name u now long C' R' (msgB name n ++ nul) res → Recv rows name u now long C R lo res := by
  obtain ⟨s1, s2⟩ := h.scn (⟨msgB name n, m.txt.1⟩ :: t) lo (hiB name) hl
  have hp : msOf n m.txt.1 = (m, 0) := by rw [← hnum]; exact msOf_txt hm
  obtain ⟨g1, g2⟩ := s2.gone hr hn hn6 hk hK
  have hb : buryA (valR rows) C (scnB (⟨msgB name n, m.txt.1⟩ :: t) R lo (hiB name) 1) name u m = (0, putL C ⟨msgB name n, ⟨#[]⟩, true⟩, scnB (⟨msgB name n, m.txt.1⟩ :: t) R lo (hiB name) 1) := by
    unfold buryA goneC
    rw [show m.num.toNat = n from by rw [hnum]; rfl, g1, hd]
    rfl
  refine ⟨_, _, g2, fun res h2 => .bury (by rw [h.see]; exact hL) s1 hn6 (Ms.txt40 hm) (by rw [hp]) (by rw [hp]; dsimp only; omega) (by rw [hp]; exact ht) (by rw [hp, hb]) ?_⟩
  rw [hp, hb]
  exact h2
theorem Deed.recv_pass (hr : QRows rows) (h : Deed rows K D r C R) {name lo : ByteArray} {u v : Qu} {now long : Int} {m : Ms} {n k : Nat} {t : List Rw} (hn : NameOk name) (hnd : NameOk u.dead) (hL : inR lo (hiB name) D = ⟨msgB name n, m.txt.1⟩ :: t) (hm : ¬ m.bad) (hnum : m.num = n) (hn6 : n < 1000000) (hw : m.until_ ≤ now) (ht : u.tries ≤ m.tries) (hk : msgB name n ∈ K) (hK : K.length ≤ 12)
    (hv : valR (appR D ⟨msgB name n, ⟨#[]⟩, true⟩) (queB u.dead) = (v.txt.1, true)) (hvo : v.ok) (hvn : v.next = k) (hk6 : k < 999999) (hkq : queB u.dead ∈ K) (hkm : msgB u.dead k ∈ K) (hl : r + 1 < 40) :
    ∃ C' R', Deed rows K (appR (appR (appR D ⟨msgB name n, ⟨#[]⟩, true⟩) ⟨msgB u.dead k, (Ms.txt ⟨k, 0, 0, m.body⟩).1, false⟩) ⟨queB u.dead, v.up.txt.1, false⟩) (r + 2) C' R' ∧ ∀ res, Recv rows name u now long C' R' (msgB name n ++ nul) res → Recv rows name u now long C R lo res := by
  obtain ⟨s1, s2⟩ := h.scn (⟨msgB name n, m.txt.1⟩ :: t) lo (hiB name) (by omega)
  have hp : msOf n m.txt.1 = (m, 0) := by rw [← hnum]; exact msOf_txt hm
  obtain ⟨g1, g2⟩ := s2.gone hr hn hn6 hk hK
  have hf := g2.find_yes hr hnd hv hvo hl
  have hmb : m.body.size ≤ 28 := by unfold Ms.bad at hm; omega
  obtain ⟨C', e, hd⟩ := (g2.find_reads u.dead).sendA hr hnd hvo hvn hk6 hmb (by omega : (0 : Int) ≤ 0 ∧ (0 : Int) ≤ 2000000) hkq hkm hK
  have hds : ¬ u.dead.size = 0 := by have := hnd.1; omega
  have hb : buryA (valR rows) C (scnB (⟨msgB name n, m.txt.1⟩ :: t) R lo (hiB name) 1) name u m = (0, C', findR (putL C ⟨msgB name n, ⟨#[]⟩, true⟩) (scnB (⟨msgB name n, m.txt.1⟩ :: t) R lo (hiB name) 1) u.dead) := by
    unfold buryA goneC
    rw [show m.num.toNat = n from by rw [hnum]; rfl, g1, if_neg (by simp), if_neg hds, hf]
    dsimp only
    rw [if_neg (by simp), e]
  refine ⟨_, _, hd, fun res h2 => .bury (by rw [h.see]; exact hL) s1 hn6 (Ms.txt40 hm) (by rw [hp]) (by rw [hp]; dsimp only; omega) (by rw [hp]; exact ht) (by rw [hp, hb]) ?_⟩
  rw [hp, hb]
  exact h2
theorem timeN_ok2 {a b : Int} (h : 0 ≤ a ∧ a ≤ 1000000) (h2 : 0 ≤ b ∧ b ≤ 1000000) : timeN [a, b] = 0 := by
  unfold timeN badT
  rw [if_neg]
  simp
  omega
theorem Deed.receive (hr : QRows rows) (h : Deed rows K D r C R) {name : ByteArray} {u : Qu} {now long : Int} {m : Ms} {C' : List Ch} {R' : List Sp} (hn : NameOk name) (hv : valR D (queB name) = (u.txt.1, true)) (hu : u.ok) (h1 : 0 ≤ now ∧ now ≤ 1000000) (h2 : 0 ≤ long ∧ long ≤ 1000000) (hl : r < 40)
    (hrec : Recv rows name u now long C (findR C R name) (loB name) (m, 0, C', R')) : RecvAns rows C R name now long (m, 0, C', R') := by
  have hf := h.find_yes hr hn hv hu hl
  exact .done (by rw [hf]) (timeN_ok2 h1 h2) (by rw [hf]; exact hrec) rfl
theorem Deed.receive_no (hr : QRows rows) (h : Deed rows K D r C R) {name : ByteArray} {u : Qu} {now long : Int} {m : Ms} {N : Nat} {C' : List Ch} {R' : List Sp} (hn : NameOk name) (hv : valR D (queB name) = (u.txt.1, true)) (hu : u.ok) (h1 : 0 ≤ now ∧ now ≤ 1000000) (h2 : 0 ≤ long ∧ long ≤ 1000000) (hl : r < 40)
    (hrec : Recv rows name u now long C (findR C R name) (loB name) (m, N, C', R')) (hN : N ≠ 0) : RecvAns rows C R name now long (Ms.z, N, C, R') := by
  have hf := h.find_yes hr hn hv hu hl
  exact .fail (by rw [hf]) (timeN_ok2 h1 h2) (by rw [hf]; exact hrec) hN rfl
end Go.Proofs.YtmknhibaoopjjaaGreatDoor
namespace Go.Proofs.YtmknhibaoopjjaaGreatDoor
open Go.RowKit
/-- Messages of the first rows. -/
noncomputable def msG (O : List Rw) (j : Nat) : List Ms := (O.take j).map fun r => (msR r).1
theorem msG_len {O : List Rw} {j : Nat} (h : j ≤ O.length) : (msG O j).length = j := by unfold msG; rw [List.length_map, List.length_take]; omega
theorem msG_next {O : List Rw} {j : Nat} (h : j < O.length) : msG O (j + 1) = msG O j ++ [(msR O[j]).1] := by
  unfold msG; rw [List.take_succ_eq_append_getElem h, List.map_append]; rfl
theorem msG_all {O : List Rw} : msG O O.length = O.map fun r => (msR r).1 := by unfold msG; rw [List.take_length]
theorem okG_next {O : List Rw} {j : Nat} (h : j < O.length) (h1 : ∀ r ∈ O.take j, (msR r).2 = 0) (h2 : (msR O[j]).2 = 0) : ∀ r ∈ O.take (j + 1), (msR r).2 = 0 := fun r hr => by
  rw [List.take_succ_eq_append_getElem h] at hr
  rcases List.mem_append.1 hr with hr | hr
  · exact h1 r hr
  · rw [List.mem_singleton.1 hr]; exact h2
theorem msR_msg {name k v : ByteArray} {n : Nat} (hn : n < 1000000) (hk : k = msgB name n) : msR ⟨k, v⟩ = msOf (n : Int) v := by
  unfold msR; rw [hk]; dsimp only; rw [numO_msg name hn]
set_option maxHeartbeats 16000000 in
set_option maxRecDepth 100000 in
theorem qMessages_does (q p since nn : Nat) (V : List (ByteArray × List Vn)) (rows : List Rw) (hs : Seen V since rows) (C : List Ch) (R : List Sp) (name : ByteArray) (hI : QInv C R) (hk : name.size ≤ 200) {φ : World → Prop} (hφ : ∀ w, φ w → LibOk w) :
    Does Tryz.prog 57 #[.pointer (some ⟨q, 0, none⟩), .string name] [ViewR q p since C R, VerR p nn V, .imm φ]
      (fun x : Option Addr × Nat => (.tuple #[.slice x.1 (msgsA rows C R name).1.length x.2, errV (msgsA rows C R name).2.1], [ViewR q p since C (msgsA rows C R name).2.2, VerR p nn V, .imm φ, Row2 104 4 x.1 (msgsA rows C R name).1.length x.2 ((msgsA rows C R name).1.flatMap msC)])) := by
  obtain ⟨iM, hiM, hzM, hsM, hbM⟩ := info_parts Tryz.infoMs
  have hc12 := hI.c12
  have HF := qFind_does q p since nn V C R name _ (hs.rd _) (hs.val _) hI.val hk (by omega) hI.ups hI.r40 hs.v6 hφ
  have HMS := fun w => messages_any name w (by omega)
  have hr2 := (hI.find name).r40
  have HSC := vwScan_does q p since nn V C (findR C R name) (loB name) (hiB name) 53 _ (hs.scan C (loB name) (hiB name)) hs.nd (by omega) hr2 hs.vl hs.v1 (seen_keys hs.qr hI (loB name) (hiB name))
  have hok := findN_ok (y := valR rows (queB name)) (C := C) (R := R) (name := name)
  have hMR := fun h => msgRows (name := name) hs.qr hI h
  have hhs : (hiB name).size = name.size + 3 := by
    unfold hiB
    simp only [ByteArray.size_append]
    show 1 + 1 + name.size + 1 = _
    omega
  have hhs1 := Nat.le_of_eq hhs
  have hhs2 := Nat.le_of_eq hhs.symm
  clear hhs
  unfold msgsA
  unfold Qu.v at HF
  generalize hLL : inR (loB name) (hiB name) (C.foldl appR rows) = L at *
  have hLn : L.length ≤ 1012 := by
    rw [← hLL]
    exact Nat.le_trans (List.length_filter_le _ _) (Nat.le_trans (apps_len C rows) (by have := hs.qr.len; omega))
  clear hLL
  generalize findN (valR rows (queB name)) C R name = f at *
  generalize findR C R name = R1 at *
  generalize hiB name = hi at *
  generalize loB name = lo at *
  obtain ⟨⟨un, ut, ud⟩, f2⟩ := f
  dsimp only at HF hok ⊢
  clear hs hI
  rcases errV_or f2 with ⟨h0, e⟩ | ⟨M, h0, e⟩
  · rw [e] at HF
    rw [if_neg (by omega)]
    have hMR := hMR (hok h0).2.2.2.2
    clear hok e h0
    by_cases h1 : scnN L R1 lo hi 53 ≠ 0
    · rw [if_pos h1]
      have e1 : scnO L R1 lo hi 53 = [] := by unfold scnO; rw [if_neg h1]
      rw [e1] at HSC
      dsimp only [List.length_nil, List.flatMap_nil] at HSC ⊢
      generalize scnB L R1 lo hi 53 = R2 at *
      rcases errV_or (scnN L R1 lo hi 53) with ⟨h0, e⟩ | ⟨M, h0, e⟩
      · exact absurd h0 h1
      · rw [e] at HSC ⊢
        clear e h0 h1 e1 hMR
        intro S W w L0 hO; simp only [CA] at hO
        ((try clear hf); have hf := fa_ hO)
        go_enter Tryz.func57, Tryz.ntmps57
        go_wp2_with (first | (go_at_call 115; (with_reducible apply Does.use hO (HF); (focus exact tk_); clear hO; intro x9 w9 hO; dsimp only at hO ⊢; simp only [CA] at hO; ((try clear hf); have hf := fa_ hO))) | (go_at_call 132; (with_reducible apply Calls.mono (HMS _); rintro e8 w8 ⟨rfl, hx8⟩; replace hO := hO.ext hx8; clear hx8; dsimp only; ((try clear hf); have hf := fa_ hO))) | (go_at_call 23; (with_reducible apply Does.use hO (HSC); (focus exact tk_); clear hO; intro x9 w9 hO; dsimp only at hO ⊢; simp only [CA] at hO; ((try clear hf); have hf := fa_ hO); (obtain ⟨oa, oc⟩ := x9; dsimp only at hO ⊢; ((try clear hf); have hf := fa_ hO)))) | ((refine sy_ hO ?_); clear hO; intro w9 hO; (try dsimp only [List.set] at hO); ((try clear hf); have hf := fa_ hO)))
        have hO := hO.nil 104 4
        go_ret2
        refine ⟨(none, 0), rfl, ?_⟩
        simp only [List.length_nil, List.flatMap_nil]
        (try simp only [CA])
        exact hO.cut sb_
    · have h1 : scnN L R1 lo hi 53 = 0 := by omega
      rw [if_neg (by omega)]
      have e1 : scnO L R1 lo hi 53 = L.take 53 := by unfold scnO; rw [if_pos h1]; rfl
      rw [e1, h1, show errV 0 = .nilIface from rfl] at HSC
      have hMO := hMR.take 53
      have hOl : (L.take 53).length ≤ 53 := by rw [List.length_take]; omega
      generalize scnB L R1 lo hi 53 = R2 at *
      generalize L.take 53 = O at *
      clear e1 h1 hMR hLn
      have HMO := Lib.hid hMO
      clear hMO
      generalize hyy : (if msgsN O ≠ 0 then (([] : List Ms), 4, R2) else (O.map (fun r => (msR r).1), 0, R2)) = y
      have HY := Lib.hid hyy.symm
      clear hyy
      intro S W w L0 hO; simp only [CA] at hO
      ((try clear hf); have hf := fa_ hO)
      go_enter Tryz.func57, Tryz.ntmps57
      go_wp2_with (first | (go_at_call 115; (with_reducible apply Does.use hO (HF); (focus exact tk_); clear hO; intro x9 w9 hO; dsimp only at hO ⊢; simp only [CA] at hO; ((try clear hf); have hf := fa_ hO))) | (go_at_call 132; (with_reducible apply Calls.mono (HMS _); rintro e8 w8 ⟨rfl, hx8⟩; replace hO := hO.ext hx8; clear hx8; dsimp only; ((try clear hf); have hf := fa_ hO))) | (go_at_call 23; (with_reducible apply Does.use hO (HSC); (focus exact tk_); clear hO; intro x9 w9 hO; dsimp only at hO ⊢; simp only [CA] at hO; ((try clear hf); have hf := fa_ hO); (obtain ⟨oa, oc⟩ := x9; dsimp only at hO ⊢; ((try clear hf); have hf := fa_ hO)))) | ((refine sy_ hO ?_); clear hO; intro w9 hO; (try dsimp only [List.set] at hO); ((try clear hf); have hf := fa_ hO)))
      obtain ⟨g, hg9⟩ := (hO.pick (r := Var _ [.string lo, .string hi] 49) pk_).named
      rw [← hg9]; rw [← hg9] at hO; clear hg9
      have hO9 := hO.nil 104 4
      clear hO hf
      go_loopw [10, 40] (fun v10 v40 wr => ∃ (j oc2 : Nat) (ma : Option Addr), v10 = .slice ma j oc2 ∧ v40 = .int .i64 j ∧ j ≤ O.length ∧ Hid (∀ r ∈ O.take j, (msR r).2 = 0) ∧ Own S W wr ([Row2 104 4 ma j oc2 ((msG O j).flatMap msC), Var g [.string lo, .string hi] 49, ViewR q p since C R2, VerR p nn V, Row2 80 2 oa O.length oc (O.flatMap rwC), .imm φ] ++ L0)) (fun _ v _ => O.length - (intOf v).toNat)
      case atStart => exact ⟨0, 0, none, rfl, rfl, by omega, Lib.hid (fun _ h => by simp at h), by rw [show (msG O 0).flatMap msC = [] from rfl]; (try simp only [CA]); exact hO9.cut sb_⟩
      case round =>
        clear hO9
        obtain ⟨j, oc2, ma, rfl, rfl, hj, HOK, hO⟩ := hrel
        rename World => w1
        simp only [List.cons_append, List.nil_append] at hO
        ((try clear hf); have hf := fa_ hO)
        by_cases hlt : j < O.length
        · obtain ⟨n, hn, hkey, hval⟩ := HMO.out _ (List.getElem_mem hlt)
          obtain ⟨ob, oo, rfl⟩ := rw_some (rowV (hO.factOf (r := Row2 80 2 oa O.length oc (O.flatMap rwC)) pk_)) hlt
          have hc01 := rw_cells (rowV (hO.factOf (r := Row2 80 2 (some ⟨ob, oo, none⟩) O.length oc (O.flatMap rwC)) pk_)) hlt
          have hmr := msR_msg (v := O[j].val) hn hkey
          have hOj : (⟨O[j].key, O[j].val⟩ : Rw) = O[j] := rfl
          have HGN := Lib.hid (msG_next hlt)
          have HKN := Lib.hid (fun h => okG_next hlt HOK.out h)
          have HBD := Lib.hid (fun h => msgsN_bad (List.getElem_mem hlt) h)
          have HLN := Lib.hid (msG_len (O := O) (j := j) (by omega))
          have hor := msR_or O[j]
          rw [← hOj, hmr] at HGN HKN HBD hor
          clear hOj hmr
          have HMP := fun w h => mpar_any (numP n 6 : Nat) O[j].val (by omega) w h
          rw [show msOf ((numP n 6 : Nat) : Int) O[j].val = msOf (n : Int) O[j].val from rfl] at HMP
          obtain ⟨c0, c1⟩ := hc01
          rw [hkey] at c0
          generalize O[j].val = v at *
          clear hkey
          have hat : ∀ i, i < 6 → ∀ h, (msgB name n)[name.size + 3 + i]'h = d8 (numD n i) := fun i hi h => msgB_at name hn hi h
          generalize hkk : msgB name n = ky at *
          have hsz : ky.size = name.size + 9 := by rw [← hkk]; exact msgB_size name n
          clear hkk
          have hds : (ky.extract hi.size ky.size).size = 6 := by rw [ByteArray.size_extract]; omega
          have hdd : ∀ i, i < 6 → ∀ h, (ky.extract hi.size ky.size)[i]'h = d8 (numD n i) := fun i hi3 h => by
            have := hat i hi3 (by omega)
            rw [← this, ByteArray.getElem_extract]
            congr 1
            omega
          have hsz2 : hi.size ≤ ky.size ∧ ky.size ≤ hi.size + 6 ∧ hi.size + 6 ≤ ky.size := by omega
          have hs203 : hi.size ≤ 203 := by omega
          clear hsz hat
          obtain ⟨hs4, hs5, hs6⟩ := hsz2
          generalize hdk : ky.extract hi.size ky.size = d at *
          have hds1 := Lib.hid hds
          have hdd1 := Lib.hid hdd
          clear hds hdd
          generalize hmm : msOf (n : Int) v = mm at *
          obtain ⟨⟨m1, m2, m3, m4⟩, me⟩ := mm
          unfold Ms.v at HMP
          unfold Ms.z at hor
          dsimp only at HMP HGN HKN HBD hor
          have HOR := Lib.hid hor
          clear hmm hor
          go_upto_region 13 with (((refine sy_ hO ?_); clear hO; intro w9 hO; (try dsimp only [List.set] at hO); ((try clear hf); have hf := fa_ hO)))
          go_wp2
          go_loopw [13, 15] (fun v13 v15 wr => ∃ i : Nat, i ≤ 6 ∧ v13 = .int .i64 (numP n i) ∧ wr = w9.iter d i) (fun _ _ wr => 6 - posOf wr w9.heap.size)
          case atStart => exact ⟨0, by omega, rfl, rfl⟩
          case round =>
            obtain ⟨i, hi6, rfl, rfl⟩ := hrel
            by_cases hlt3 : i < 6
            · obtain ⟨n1, n2, n3⟩ := numP_next hn hlt3
              have hlt2 : i < d.size := by have := hds1.out; omega
              have hd8 : (d8 (numD n i)).toNat = 48 + numD n i := d8_toNat _ n2
              have hde : d[i].toNat = 48 + numD n i := by rw [hdd1.out i hlt3 hlt2]; exact hd8
              have hnx := fun ty => run_next_ascii (P := Tryz.prog) w9 d i ty hlt2 (by omega)
              rw [hde] at hnx
              go_wp2
              exact ⟨⟨i + 1, by omega, by rw [n1]; go_num, rfl⟩, by rw [posOf_iter, posOf_iter]; omega⟩
            · obtain rfl : i = 6 := by omega
              have hnx := fun ty => run_next_end (P := Tryz.prog) w9 d 6 ty (by have := hds1.out; omega)
              replace hO := hO.ext ((Ext.refl w9).iter d 6)
              ((try clear hf); have hf := fa_ hO)
              rcases HOR.out with rfl | ⟨rfl, he⟩
              · have hOK2 := HKN.out rfl
                rw [show errV 0 = .nilIface from rfl] at HMP
                go_wp2_with (first | (go_at_call 133; (with_reducible apply Calls.mono (HMP _ (hφ _ (Own.immOf (φ := φ) hO pk_))); rintro e8 w8 ⟨rfl, hx8⟩; replace hO := hO.ext hx8; clear hx8; dsimp only; ((try clear hf); have hf := fa_ hO))) | (at_builtin; (refine wpList_append_var (e := 104) (size := 4) (xs := (msG O j).flatMap msC) (news := [.int .i64 m1, .int .i64 m2, .int .i64 m3, .string m4]) hO pk_ pk_ rfl (.tmp 70) (.tmp 72) 107 rfl iM _ 40 Tryz.underlying107 hiM hzM hsM hbM rfl (by omega) rfl _ _ rfl (by rfl) (by repeat (first | exact ones_nil | refine ones_cons rfl ?_)) (by unfold maxLen; omega) (by omega) ?_; clear hO; intro ka9 kc9 w9 hO; ((try clear hf); have hf := fa_ hO))) | ((refine sy_ hO ?_); clear hO; intro w9 hO; (try dsimp only [List.set] at hO); ((try clear hf); have hf := fa_ hO)))
                refine ⟨⟨j + 1, kc9, ka9, rfl, by go_num, by omega, Lib.hid hOK2, ?_⟩, by simp [intOf]; omega⟩
                rw [HGN.out, ms_one]
                (try simp only [CA])
                exact hO.cut sb_
              · have h4 := HBD.out rfl
                rw [show errV 4 = .iface 127 (.int .i64 4) from rfl] at HMP
                go_wp2_with (first | (go_at_call 133; (with_reducible apply Calls.mono (HMP _ (hφ _ (Own.immOf (φ := φ) hO pk_))); rintro e8 w8 ⟨rfl, hx8⟩; replace hO := hO.ext hx8; clear hx8; dsimp only; ((try clear hf); have hf := fa_ hO))) | ((refine sy_ hO ?_); clear hO; intro w9 hO; (try dsimp only [List.set] at hO); ((try clear hf); have hf := fa_ hO)))
                rw [HY.out, h4, if_pos (by omega)]
                have hO := hO.nil 104 4
                go_ret2
                refine ⟨(none, 0), rfl, ?_⟩
                simp only [List.length_nil, List.flatMap_nil]
                (try simp only [CA])
                exact hO.cut sb_
        · obtain rfl : j = O.length := by omega
          have h4 : msgsN O = 0 := msgsN_ok (by have := HOK.out; rw [List.take_length] at this; exact this)
          rw [msG_all] at hO
          go_wp2_with (first | ((refine sy_ hO ?_); clear hO; intro w9 hO; (try dsimp only [List.set] at hO); ((try clear hf); have hf := fa_ hO)))
          go_ret2
          rw [HY.out, h4, if_neg (by omega)]
          dsimp only
          refine ⟨(ma, oc2), by simp; rfl, ?_⟩
          simp only [List.length_map]
          (try simp only [CA])
          exact hO.cut sb_
  · rw [e] at HF
    rw [if_pos h0]
    dsimp only
    rw [e]
    clear hok e hMR
    intro S W w L0 hO; simp only [CA] at hO
    ((try clear hf); have hf := fa_ hO)
    go_enter Tryz.func57, Tryz.ntmps57
    go_wp2_with (first | (go_at_call 115; (with_reducible apply Does.use hO (HF); (focus exact tk_); clear hO; intro x9 w9 hO; dsimp only at hO ⊢; simp only [CA] at hO; ((try clear hf); have hf := fa_ hO))) | ((refine sy_ hO ?_); clear hO; intro w9 hO; (try dsimp only [List.set] at hO); ((try clear hf); have hf := fa_ hO)))
    have hO := hO.nil 104 4
    go_ret2
    refine ⟨(none, 0), rfl, ?_⟩
    simp only [List.length_nil, List.flatMap_nil]
    (try simp only [CA])
    exact hO.cut sb_
end Go.Proofs.YtmknhibaoopjjaaGreatDoor
namespace Go.Proofs.YtmknhibaoopjjaaGreatDoor
open Go.RowKit
def qN : ByteArray := ⟨#[113]⟩
def dN : ByteArray := ⟨#[100]⟩
theorem qN_ok : NameOk qN := by decide
theorem dN_ok : NameOk dN := by decide
theorem dN_ne : ¬ dN = qN := by decide
theorem slt_heads {a b : ByteArray} {p s t : List UInt8} {x y : UInt8} (ha : a.data.toList = p ++ x :: s) (hb : b.data.toList = p ++ y :: t) (h : x < y) : slt a b = true := by
  unfold slt
  rw [ByteArray.toList_eq, ByteArray.toList_eq, ha, hb, bl_same, bl_cons]
  simp [h]
theorem msgB_list (a : ByteArray) (n : Nat) : (msgB a n).data.toList = 109 :: 47 :: (a.data.toList ++ 47 :: (six n).data.toList) := by
  unfold msgB
  rw [app_data, app_data, app_data, app_data]
  simp only [List.append_assoc]
  rfl
theorem queB_list (a : ByteArray) : (queB a).data.toList = 113 :: 47 :: a.data.toList := by
  unfold queB
  rw [app_data, app_data]
  rfl
theorem loB_list (a : ByteArray) : (loB a).data.toList = 109 :: 47 :: (a.data.toList ++ [47]) := by
  unfold loB
  rw [app_data, app_data, app_data]
  simp only [List.append_assoc]
  rfl
theorem hiB_list (a : ByteArray) : (hiB a).data.toList = 109 :: 47 :: (a.data.toList ++ [48]) := by
  unfold hiB
  rw [app_data, app_data, app_data]
  simp only [List.append_assoc]
  rfl
theorem msg_que (a b : ByteArray) (n : Nat) : slt (msgB a n) (queB b) = true := slt_heads (p := []) (msgB_list a n) (queB_list b) (by decide)
theorem que_dq : slt (queB dN) (queB qN) = true := slt_heads (p := [113, 47]) (queB_list dN) (queB_list qN) (by decide)
theorem msg_dq (n m : Nat) : slt (msgB dN n) (msgB qN m) = true := slt_heads (p := [109, 47]) (msgB_list dN n) (msgB_list qN m) (by decide)
theorem hiB_no (a : ByteArray) : (hiB a).toList.isEmpty = false := by rw [ByteArray.toList_eq, hiB_list]; rfl
theorem has_false {lo hi k : ByteArray} (h : slt hi k = true) (hn : hi.toList.isEmpty = false) : hasB lo hi k = false := by
  unfold hasB belowB
  rw [slt_asymm h, hn]
  simp
theorem has_low {lo hi k : ByteArray} (h : slt k lo = true) : hasB lo hi k = false := by
  unfold hasB
  rw [h]
  rfl
theorem has_qq (lo a b : ByteArray) : hasB lo (hiB a) (queB b) = false := has_false (slt_heads (p := []) (hiB_list a) (queB_list b) (by decide)) (hiB_no a)
theorem has_q0 (n : Nat) : hasB (loB qN) (hiB qN) (msgB qN n) = true := has_span.2 ((has_msg qN_ok qN_ok n).2 rfl)
theorem has_d0 (n : Nat) : hasB (loB dN) (hiB dN) (msgB dN n) = true := has_span.2 ((has_msg dN_ok dN_ok n).2 rfl)
theorem has_dq (n : Nat) : hasB (loB qN) (hiB qN) (msgB dN n) = false := has_low (slt_heads (p := [109, 47]) (msgB_list dN n) (loB_list qN) (by decide))
theorem has_qd (lo : ByteArray) (n : Nat) : hasB lo (hiB dN) (msgB qN n) = false := has_false (slt_heads (p := [109, 47]) (hiB_list dN) (msgB_list qN n) (by decide)) (hiB_no dN)
theorem has_q1 (k n : Nat) (hk : k < 1000000) (hn : n < 1000000) : hasB (msgB qN k ++ nul) (hiB qN) (msgB qN n) = decide (k < n) := by
  have h := has_q0 n
  unfold hasB at h ⊢
  simp only [Bool.and_eq_true] at h
  rw [h.2, slt_nul_iff, slt_msg qN k n hk hn]
  simp
theorem has_d1 (k n : Nat) : hasB (msgB qN k ++ nul) (hiB qN) (msgB dN n) = false := has_low (slt_trans (msg_dq n k) (slt_nul _))
theorem appF_skip {c : Ch} {Z : List Rw} : ∀ {A : List Rw} (l : Bool), (∀ a ∈ A, slt a.key c.key = true) → appF c l (A ++ Z) = A ++ appF c l Z
  | [], _, _ => rfl
  | x :: A, l, h => by
    have ih := appF_skip (c := c) (Z := Z) (A := A) l fun a ha => h a (List.mem_cons_of_mem _ ha)
    have hx := h x (List.mem_cons_self ..)
    cases l with
    | false => rw [List.cons_append, appF_lt hx, ih]; rfl
    | true => rw [List.cons_append, appF_tn (slt_ne hx), ih]; rfl
theorem app_ins {c : Ch} {A Z : List Rw} (hg : c.gone = false) (hA : ∀ a ∈ A, slt a.key c.key = true) (hZ : ∀ z ∈ Z, slt c.key z.key = true) : appR (A ++ Z) c = A ++ ⟨c.key, c.val⟩ :: Z := by
  unfold appR
  rw [hg, appF_skip false hA]
  congr 1
  cases Z with
  | nil => rfl
  | cons z Z =>
    have h1 := hZ z (List.mem_cons_self ..)
    rw [appF_gn (slt_asymm h1) (slt_ne h1).symm, appF_id fun r hr => (slt_ne (hZ r (List.mem_cons_of_mem _ hr))).symm]
theorem app_rep {c : Ch} {A Z : List Rw} {r : Rw} (hg : c.gone = false) (hA : ∀ a ∈ A, slt a.key c.key = true) (hr : r.key = c.key) (hZ : ∀ z ∈ Z, slt c.key z.key = true) : appR (A ++ r :: Z) c = A ++ ⟨c.key, c.val⟩ :: Z := by
  unfold appR
  rw [hg, appF_skip false hA, appF_ge (by rw [hr]; exact slt_irrefl _) hr, appF_id fun r hr => (slt_ne (hZ r hr)).symm]
theorem app_del {c : Ch} {A Z : List Rw} {r : Rw} (hg : c.gone = true) (hA : ∀ a ∈ A, slt a.key c.key = true) (hr : r.key = c.key) (hZ : ∀ z ∈ Z, slt c.key z.key = true) : appR (A ++ r :: Z) c = A ++ Z := by
  unfold appR
  rw [hg, appF_skip true hA, appF_te hr, appF_id fun r hr => (slt_ne (hZ r hr)).symm]
theorem valR_in {A Z : List Rw} {r : Rw} {k : ByteArray} (hr : r.key = k) (hA : ∀ a ∈ A, slt a.key k = true) : valR (A ++ r :: Z) k = (r.val, true) := by
  unfold valR
  rw [List.find?_append, List.find?_eq_none.2 (fun a ha h => slt_ne (hA a ha) (of_decide_eq_true h))]
  rw [List.find?_cons, decide_eq_true hr]
  rfl
theorem valR_out {D : List Rw} {k : ByteArray} (h : ∀ r ∈ D, r.key ≠ k) : valR D k = (⟨#[]⟩, false) := by
  unfold valR
  rw [List.find?_eq_none.2 (fun a ha h2 => h a ha (of_decide_eq_true h2))]
theorem QRows.nil : QRows [] := ⟨.nil, fun _ h => (List.not_mem_nil h).elim, Nat.zero_le _⟩
theorem QInv.nil : QInv [] [] := ⟨List.Pairwise.nil, Nat.zero_le _, Nat.zero_le _, fun _ h => (List.not_mem_nil h).elim⟩
theorem Deed.start (rows : List Rw) (K : List ByteArray) : Deed rows K rows 0 [] [] := ⟨QInv.nil, fun _ h => (List.not_mem_nil h).elim, rfl, Nat.le_refl _⟩
/-- A row of a message. -/
def mR (name : ByteArray) (n : Nat) (m : Ms) : Rw := ⟨msgB name n, m.txt.1⟩
def uR (name : ByteArray) (u : Qu) : Rw := ⟨queB name, u.txt.1⟩
/-- Messages, told: of rows that are all messages. -/
theorem Deed.msgs {rows : List Rw} {K : List ByteArray} {D : List Rw} {r : Nat} {C : List Ch} {R : List Sp} (hr : QRows rows) (h : Deed rows K D r C R) {name : ByteArray} {u : Qu} (hn : NameOk name) (hv : valR D (queB name) = (u.txt.1, true)) (hu : u.ok) (l : List (Nat × Ms)) (hL : inR (loB name) (hiB name) D = l.map fun x => mR name x.1 x.2)
    (hl : ∀ x ∈ l, x.1 < 1000000 ∧ x.2.num = x.1 ∧ ¬ x.2.bad) (h53 : l.length ≤ 53) (h40 : r + 1 < 40) :
    ∃ R', msgsA rows C R name = (l.map (·.2), 0, R') ∧ Deed rows K D (r + 2) C R' := by
  have hf := h.find_yes hr hn hv hu (by omega)
  have h1 := h.find_reads name
  have hrd := h1.read
  have s0 : scnN (l.map fun x => mR name x.1 x.2) (findR C R name) (loB name) (hiB name) 53 = 0 := by
    unfold scnN; rw [if_neg (by omega)]; exact noteN_free _ (by omega)
  have hp : ∀ x ∈ l, msR (mR name x.1 x.2) = (x.2, 0) := fun x hx => by
    obtain ⟨a, b, c⟩ := hl x hx
    unfold mR
    rw [msR_msg a rfl, ← b]
    exact msOf_txt c
  have hok : msgsN (l.map fun x => mR name x.1 x.2) = 0 := msgsN_ok fun y hy => by
    obtain ⟨x, hx, rfl⟩ := List.mem_map.1 hy
    rw [hp x hx]
  have ht : (l.map fun x => mR name x.1 x.2).take 53 = l.map fun x => mR name x.1 x.2 := List.take_of_length_le (by rw [List.length_map]; omega)
  refine ⟨scnB (l.map fun x => mR name x.1 x.2) (findR C R name) (loB name) (hiB name) 53, ?_, h1.inv.scan _ _ _ _, h1.keys, h1.see, ?_⟩
  · unfold msgsA
    rw [hf, h.see, hL, s0, ht, hok]
    dsimp only
    rw [if_neg (by simp), if_neg (by simp), if_neg (by simp), List.map_map]
    congr 1
    apply List.map_congr_left
    intro x hx
    show (msR (mR name x.1 x.2)).1 = x.2
    rw [hp x hx]
  · unfold scnB
    rw [if_neg (by omega)]
    have := noteR_one (findR C R name) (scnS (l.map fun x => mR name x.1 x.2) (loB name) (hiB name) 53)
    omega
end Go.Proofs.YtmknhibaoopjjaaGreatDoor
namespace Go.Proofs.YtmknhibaoopjjaaGreatDoor
open Go.RowKit
variable {rows : List Rw} {K : List ByteArray} {D : List Rw} {r : Nat} {C : List Ch} {R : List Sp}
/-- One queue q, one message: what is seen. -/
theorem one_val (n : Nat) (m : Ms) (u : Qu) : valR [mR qN n m, uR qN u] (queB qN) = (u.txt.1, true) := valR_in (A := [mR qN n m]) (Z := []) (r := uR qN u) rfl (fun z hz => by rw [List.mem_singleton.1 hz]; exact msg_que qN qN n)
theorem one_que (u : Qu) : valR [uR qN u] (queB qN) = (u.txt.1, true) := valR_in (A := []) (Z := []) (r := uR qN u) rfl (fun _ h => (List.not_mem_nil h).elim)
theorem one_L (n : Nat) (m : Ms) (u : Qu) : inR (loB qN) (hiB qN) [mR qN n m, uR qN u] = ⟨msgB qN n, m.txt.1⟩ :: [] := by
  unfold inR mR uR
  simp [List.filter, has_q0, has_qq]
theorem one_L0 (lo : ByteArray) (u : Qu) : inR lo (hiB qN) [uR qN u] = [] := by
  unfold inR uR
  simp [List.filter, has_qq]
theorem one_send (n : Nat) (m : Ms) (u u' : Qu) : appR (appR [uR qN u] ⟨msgB qN n, m.txt.1, false⟩) ⟨queB qN, u'.txt.1, false⟩ = [mR qN n m, uR qN u'] := by
  have hmq := msg_que qN qN n
  have f2 : appR [uR qN u] ⟨msgB qN n, m.txt.1, false⟩ = [mR qN n m, uR qN u] := app_ins (A := []) (Z := [uR qN u]) rfl (fun _ h => (List.not_mem_nil h).elim) (fun z hz => by rw [List.mem_singleton.1 hz]; exact hmq)
  rw [f2]
  exact app_rep (A := [mR qN n m]) (Z := []) (r := uR qN u) rfl (fun z hz => by rw [List.mem_singleton.1 hz]; exact hmq) rfl (fun _ h => (List.not_mem_nil h).elim)
theorem one_set (n : Nat) (m m' : Ms) (u : Qu) : appR [mR qN n m, uR qN u] ⟨msgB qN n, m'.txt.1, false⟩ = [mR qN n m', uR qN u] :=
  app_rep (A := []) (Z := [uR qN u]) (r := mR qN n m) rfl (fun _ h => (List.not_mem_nil h).elim) rfl (fun z hz => by rw [List.mem_singleton.1 hz]; exact msg_que qN qN n)
theorem one_del (n : Nat) (m : Ms) (u : Qu) : appR [mR qN n m, uR qN u] ⟨msgB qN n, ⟨#[]⟩, true⟩ = [uR qN u] :=
  app_del (A := []) (Z := [uR qN u]) (r := mR qN n m) rfl (fun _ h => (List.not_mem_nil h).elim) rfl (fun z hz => by rw [List.mem_singleton.1 hz]; exact msg_que qN qN n)
/-- The queue q is made. -/
theorem one_create (tries : Int) (ht : 1 ≤ tries ∧ tries ≤ 9) {K : List ByteArray} (hk : queB qN ∈ K) (hK : K.length ≤ 12) : ∃ C1 R1, createA (valR []) [] [] qN tries ⟨#[]⟩ = (0, C1, R1) ∧ Deed [] K [uR qN ⟨0, tries, ⟨#[]⟩⟩] 1 C1 R1 := by
  obtain ⟨C1, R1, e1, d1⟩ := (Deed.start [] K).create QRows.nil (tries := tries) qN_ok (by rfl) ht hk hK (by omega)
  exact ⟨C1, R1, e1, d1⟩
theorem u_ok {n tries : Int} (h : 0 ≤ n ∧ n ≤ 999999) (ht : 1 ≤ tries ∧ tries ≤ 9) : Qu.ok ⟨n, tries, ⟨#[]⟩⟩ := ⟨by unfold Qu.bad; dsimp only; omega, .inl rfl⟩
/-- A message is sent to it. -/
theorem one_sent {K : List ByteArray} {C : List Ch} {R : List Sp} {r : Nat} {tries : Int} {body : ByteArray} (ht : 1 ≤ tries ∧ tries ≤ 9) (hb : body.size ≤ 28) (h : Deed [] K [uR qN ⟨0, tries, ⟨#[]⟩⟩] r C R) (hk : queB qN ∈ K) (hk2 : msgB qN 0 ∈ K) (hK : K.length ≤ 12) (hl : r < 40) :
    ∃ C', SendA (valR [] (queB qN)) C R qN body 0 = (0, 0, C') ∧ Deed [] K [mR qN 0 ⟨0, 0, 0, body⟩, uR qN ⟨1, tries, ⟨#[]⟩⟩] (r + 1) C' (findR C R qN) := by
  obtain ⟨C2, e2, d2⟩ := h.send QRows.nil (body := body) (til := 0) (n := 0) qN_ok (one_que _) (u_ok (by omega) ht) rfl (by omega) hb (by omega) hk hk2 hK hl
  rw [show Ms.txt ⟨((0 : Nat) : Int), 0, 0, body⟩ = Ms.txt ⟨0, 0, 0, body⟩ from rfl, show (Qu.up ⟨0, tries, ⟨#[]⟩⟩) = ⟨1, tries, ⟨#[]⟩⟩ from rfl, one_send] at d2
  exact ⟨C2, e2, d2⟩
end Go.Proofs.YtmknhibaoopjjaaGreatDoor
namespace Go.Proofs.YtmknhibaoopjjaaGreatDoor
open Go.RowKit
theorem nil_seen : Seen (newV []) 0 [] := Seen.new QRows.nil
theorem cCreate (q p : Nat) {C C' : List Ch} {R R' : List Sp} {name dead : ByteArray} {tries : Int} (hI : QInv C R) (hn : name.size ≤ 200) (hd : dead.size ≤ 200) (e : createA (valR []) C R name tries dead = (0, C', R')) :
    Does Tryz.prog 54 #[.pointer (some ⟨q, 0, none⟩), .string name, .int .i64 tries, .string dead] [ViewR q p 0 C R, VerR p 0 (newV []), .imm LibOk] (fun _ : Unit => (.nilIface, [ViewR q p 0 C' R', VerR p 0 (newV []), .imm LibOk])) := by
  have h := qCreate_does q p 0 0 (newV []) (valR []) C R name tries dead nil_seen.rd nil_seen.val hI.val hn hd (by have := hI.c12; omega) hI.ups hI.r40 nil_seen.v6 (φ := LibOk) fun _ h => h
  rw [e] at h
  exact h
theorem cSend (q p : Nat) {C C' : List Ch} {R : List Sp} {name body : ByteArray} {til n : Int} (hI : QInv C R) (hn : name.size ≤ 200) (e : SendA (valR [] (queB name)) C R name body til = (n, 0, C')) :
    Does Tryz.prog 55 #[.pointer (some ⟨q, 0, none⟩), .string name, .string body, .int .i64 til] [ViewR q p 0 C R, VerR p 0 (newV []), .imm LibOk] (fun _ : Unit => (.tuple #[.int .i64 n, .nilIface], [ViewR q p 0 C' (findR C R name), VerR p 0 (newV []), .imm LibOk])) := by
  have h := qSend_does q p 0 0 (newV []) C R name body til _ (nil_seen.rd _) (nil_seen.val _) hI.val hn (by have := hI.c12; omega) hI.ups hI.r40 nil_seen.v6 (φ := LibOk) fun _ h => h
  rw [e] at h
  exact h
theorem cRecv (q p : Nat) {C C' : List Ch} {R R' : List Sp} {name : ByteArray} {now long : Int} {m : Ms} (hI : QInv C R) (hn : name.size ≤ 200) (e : RecvAns [] C R name now long (m, 0, C', R')) :
    Does Tryz.prog 56 #[.pointer (some ⟨q, 0, none⟩), .string name, .int .i64 now, .int .i64 long] [ViewR q p 0 C R, VerR p 0 (newV []), .imm LibOk] (fun _ : Unit => (.tuple #[.agg #[.int .i64 m.num, .int .i64 m.tries, .int .i64 m.until_, .string m.body], .nilIface], [ViewR q p 0 C' R', VerR p 0 (newV []), .imm LibOk])) :=
  qReceive_does q p 0 0 (newV []) [] nil_seen C R name now long _ e hI hn (φ := LibOk) fun _ h => h
theorem cNone (q p : Nat) {C C' : List Ch} {R R' : List Sp} {name : ByteArray} {now long : Int} (hI : QInv C R) (hn : name.size ≤ 200) (e : RecvAns [] C R name now long (Ms.z, 12, C', R')) :
    Does Tryz.prog 56 #[.pointer (some ⟨q, 0, none⟩), .string name, .int .i64 now, .int .i64 long] [ViewR q p 0 C R, VerR p 0 (newV []), .imm LibOk] (fun _ : Unit => (.tuple #[.agg #[.int .i64 0, .int .i64 0, .int .i64 0, .string ⟨#[]⟩], .iface 127 (.int .i64 12)], [ViewR q p 0 C' R', VerR p 0 (newV []), .imm LibOk])) :=
  qReceive_does q p 0 0 (newV []) [] nil_seen C R name now long _ e hI hn (φ := LibOk) fun _ h => h
theorem cMsgs (q p : Nat) {C : List Ch} {R R' : List Sp} {name : ByteArray} {l : List Ms} (hI : QInv C R) (hn : name.size ≤ 200) (e : msgsA [] C R name = (l, 0, R')) :
    Does Tryz.prog 57 #[.pointer (some ⟨q, 0, none⟩), .string name] [ViewR q p 0 C R, VerR p 0 (newV []), .imm LibOk] (fun x : Option Addr × Nat => (.tuple #[.slice x.1 l.length x.2, .nilIface], [ViewR q p 0 C R', VerR p 0 (newV []), .imm LibOk, Row2 104 4 x.1 l.length x.2 (l.flatMap msC)])) := by
  have h := qMessages_does q p 0 0 (newV []) [] nil_seen C R name hI hn (φ := LibOk) fun _ h => h
  rw [e] at h
  exact h
set_option maxHeartbeats 1000000 in
set_option maxRecDepth 100000 in
theorem num12 (w : World) : Calls Tryz.prog 49 #[.iface 127 (.int .i64 12)] w fun e w' => e = .returned (.int .i64 12) ∧ w' = w := by
  go_enter Tryz.func49, Tryz.ntmps49
  go_wp2
  go_ret
  exact ⟨rfl, rfl⟩
set_option maxHeartbeats 4000000 in
set_option maxRecDepth 100000 in
/-- The closed fact: a message waits in a queue. -/
theorem waits_any (w : World) (h : LibOk w) : Calls Tryz.prog 53 #[] w fun e w' => (∃ a : Nat, e = .returned (.tuple #[.pointer (some ⟨a, 0, none⟩), .bool true])) ∧ Ext w w' := by
  have hO := lib_base h
  have HN := vnew_does none 0 0 [] rfl (by omega) (by simp)
  rw [List.flatMap_nil] at HN
  have HVN := fun p => vwNew_does p 0 (newV [])
  obtain ⟨C1, R1, e1, d1⟩ := one_create 3 (by omega) (K := [queB qN, msgB qN 0]) (by simp) (by simp)
  obtain ⟨C2, e2, d2⟩ := one_sent (by omega) (body := ⟨#[120]⟩) (by decide) d1 (by simp) (by simp) (by simp) (by omega)
  obtain ⟨R3, e3, d3⟩ := d2.msgs QRows.nil qN_ok (one_val _ _ _) (u_ok (by omega) (by omega)) [(0, ⟨0, 0, 0, ⟨#[120]⟩⟩)] (one_L _ _ _) (fun x hx => by
    rw [List.mem_singleton.1 hx]
    exact ⟨by dsimp only; omega, rfl, by unfold Ms.bad; dsimp only; rw [show (⟨#[120]⟩ : ByteArray).size = 1 from rfl]; omega⟩) (by simp) (by omega)
  have HC := fun q p => cCreate q p QInv.nil (by decide) (by decide) e1
  have HSD := fun q p => cSend q p d1.inv (by decide) e2
  have HM := fun q p => cMsgs q p d2.inv (by decide) e3
  rw [show qN = ⟨#[113]⟩ from rfl] at *
  clear e1 e2 e3 d1 d2 d3
  have hO := (hO.nil 80 2).rowIm (.here _ _)
  ((try clear hf); have hf := fa_ hO)
  go_enter Tryz.func53, Tryz.ntmps53
  go_wp2_with (first | (go_at_call 17; (with_reducible apply Does.use hO (HN); (focus exact tk_); clear hO; intro x9 w9 hO; dsimp only at hO ⊢; simp only [CA] at hO; ((try clear hf); have hf := fa_ hO); rename Nat => p)) | (go_at_call 16; (with_reducible apply Does.use hO (HVN _); (focus exact tk_); clear hO; intro x9 w9 hO; dsimp only at hO ⊢; simp only [CA] at hO; ((try clear hf); have hf := fa_ hO); rename Nat => q)) | (go_at_call 54; (with_reducible apply Does.use hO (HC _ _); (focus exact tk_); clear hO; intro x9 w9 hO; dsimp only at hO ⊢; simp only [CA] at hO; ((try clear hf); have hf := fa_ hO))) | (go_at_call 55; (with_reducible apply Does.use hO (HSD _ _); (focus exact tk_); clear hO; intro x9 w9 hO; dsimp only at hO ⊢; simp only [CA] at hO; ((try clear hf); have hf := fa_ hO))) | (go_at_call 57; (with_reducible apply Does.use hO (HM _ _); (focus exact tk_); clear hO; intro x9 w9 hO; dsimp only at hO ⊢; simp only [CA] at hO; ((try clear hf); have hf := fa_ hO); (obtain ⟨ma, mc⟩ := x9; dsimp only at hO ⊢; ((try clear hf); have hf := fa_ hO)))) | ((refine sy_ hO ?_); clear hO; intro w9 hO; (try dsimp only [List.set] at hO); ((try clear hf); have hf := fa_ hO)))
  go_ret2
  exact ⟨⟨_, rfl⟩, hO.toExt⟩
end Go.Proofs.YtmknhibaoopjjaaGreatDoor
namespace Go.Proofs.YtmknhibaoopjjaaGreatDoor
open Go.RowKit
/-- Rows behind the messages of queue q. -/
structure ZQ (Z : List Rw) (u : Qu) : Prop where
  gt : ∀ n, ∀ z ∈ Z, slt (msgB qN n) z.key = true
  out : ∀ lo, inR lo (hiB qN) Z = []
  val : valR Z (queB qN) = (u.txt.1, true)
/-- Messages from a number on, each by its number. -/
def msL (f : Nat → Ms) (j n : Nat) : List Rw := (List.range' j (n - j)).map fun i => mR qN i (f i)
theorem mem_msL {f : Nat → Ms} {j n : Nat} {x : Rw} (h : x ∈ msL f j n) : ∃ i, j ≤ i ∧ i < n ∧ x = mR qN i (f i) := by
  unfold msL at h
  obtain ⟨i, hi, rfl⟩ := List.mem_map.1 h
  rw [List.mem_range'_1] at hi
  exact ⟨i, hi.1, by omega, rfl⟩
theorem msL_cons {f : Nat → Ms} {j n : Nat} (h : j < n) : msL f j n = mR qN j (f j) :: msL f (j + 1) n := by
  unfold msL
  rw [show n - j = (n - (j + 1)) + 1 from by omega, List.range'_succ]
  rfl
theorem msL_nil {f : Nat → Ms} {j n : Nat} (h : n ≤ j) : msL f j n = [] := by
  unfold msL
  rw [show n - j = 0 from by omega]
  rfl
theorem msL_split {f : Nat → Ms} {j k n : Nat} (h1 : j ≤ k) (h2 : k ≤ n) : msL f j n = msL f j k ++ msL f k n := by
  unfold msL
  rw [← List.map_append]
  congr 1
  rw [show n - j = (k - j) + (n - k) from by omega, ← List.range'_append_1]
  congr 2
  omega
theorem msL_congr {f g : Nat → Ms} {j n : Nat} (h : ∀ i, j ≤ i → i < n → f i = g i) : msL f j n = msL g j n := by
  unfold msL
  apply List.map_congr_left
  intro i hi
  rw [List.mem_range'_1] at hi
  rw [h i hi.1 (by omega)]
/-- Where a look begins: at message j, or behind the one ahead of it. -/
def loJ (j : Nat) : ByteArray := if j = 0 then loB qN else msgB qN (j - 1) ++ nul
theorem loJ_next (j : Nat) : loJ (j + 1) = msgB qN j ++ nul := by
  unfold loJ; rw [if_neg (by omega)]; rfl
theorem has_loJ {j i : Nat} (hj : j < 1000000) (hi : i < 1000000) : hasB (loJ j) (hiB qN) (msgB qN i) = decide (j ≤ i) := by
  unfold loJ
  by_cases h : j = 0
  · rw [if_pos h, has_q0, h]; simp
  · rw [if_neg h, has_q1 (j - 1) i (by omega) hi]
    rw [Bool.eq_iff_iff, decide_eq_true_iff, decide_eq_true_iff]
    omega
theorem msL_in {f : Nat → Ms} {j n : Nat} {Z : List Rw} {u : Qu} (hz : ZQ Z u) (hj : j ≤ n) (hn : n < 1000000) : inR (loJ j) (hiB qN) (msL f 0 n ++ Z) = msL f j n := by
  have h1 : inR (loJ j) (hiB qN) (msL f 0 j) = [] := List.filter_eq_nil_iff.2 fun x hx => by
    obtain ⟨i, _, hi, rfl⟩ := mem_msL hx
    unfold mR
    rw [has_loJ (by omega) (by omega)]
    simp
    omega
  have h2 : inR (loJ j) (hiB qN) (msL f j n) = msL f j n := List.filter_eq_self.2 fun x hx => by
    obtain ⟨i, h0, hi, rfl⟩ := mem_msL hx
    unfold mR
    rw [has_loJ (by omega) (by omega)]
    simpa using h0
  have h3 := hz.out (loJ j)
  rw [msL_split (Nat.zero_le j) hj]
  unfold inR at *
  rw [List.filter_append, List.filter_append, h1, h2, h3]
  simp
theorem msL_val {f : Nat → Ms} {j n : Nat} {Z : List Rw} {u : Qu} (hz : ZQ Z u) : valR (msL f j n ++ Z) (queB qN) = (u.txt.1, true) := by
  have h := hz.val
  unfold valR at h ⊢
  rw [List.find?_append, List.find?_eq_none.2 (fun x hx h2 => by
    obtain ⟨i, _, _, rfl⟩ := mem_msL hx
    exact slt_ne (msg_que qN qN i) (of_decide_eq_true h2))]
  exact h
theorem msL_set {f : Nat → Ms} {k n : Nat} {Z : List Rw} {u : Qu} (hz : ZQ Z u) (hk : k < n) (hn : n < 1000000) (m : Ms) : appR (msL f 0 n ++ Z) ⟨msgB qN k, m.txt.1, false⟩ = msL (fun i => if i = k then m else f i) 0 n ++ Z := by
  have hA : ∀ a ∈ msL f 0 k, slt a.key (msgB qN k) = true := fun a ha => by
    obtain ⟨i, _, hi, rfl⟩ := mem_msL ha
    unfold mR
    rw [slt_msg qN i k (by omega) (by omega)]
    simpa using hi
  have hB : ∀ z ∈ msL f (k + 1) n ++ Z, slt (msgB qN k) z.key = true := fun z hz2 => by
    rcases List.mem_append.1 hz2 with h | h
    · obtain ⟨i, h0, hi, rfl⟩ := mem_msL h
      unfold mR
      rw [slt_msg qN k i (by omega) (by omega)]
      exact decide_eq_true (by omega)
    · exact hz.gt k z h
  rw [msL_split (Nat.zero_le k) (by omega : k ≤ n), msL_cons hk, List.append_assoc, List.cons_append, app_rep (r := mR qN k (f k)) rfl hA rfl hB]
  rw [msL_split (f := fun i => if i = k then m else f i) (Nat.zero_le k) (by omega : k ≤ n), msL_cons (f := fun i => if i = k then m else f i) hk, List.append_assoc, List.cons_append]
  rw [msL_congr (f := fun i => if i = k then m else f i) (g := f) (j := 0) (n := k) (fun i _ hi => if_neg (by omega)), msL_congr (f := fun i => if i = k then m else f i) (g := f) (j := k + 1) (n := n) (fun i hi _ => if_neg (by omega))]
  simp [mR]
variable {rows : List Rw} {K : List ByteArray} {r : Nat} {C : List Ch} {R : List Sp}
/-- Messages that wait are skipped. -/
theorem Deed.skips {f : Nat → Ms} {n : Nat} {Z : List Rw} {u v : Qu} {now long : Int} (hz : ZQ Z v) (hn : n < 1000000) (hm : ∀ i, i < n → ¬ (f i).bad ∧ (f i).num = i) : ∀ {k j : Nat} {r : Nat} {R : List Sp}, j ≤ k → k ≤ n → (∀ i, j ≤ i → i < k → now < (f i).until_) → Deed rows K (msL f 0 n ++ Z) r C R → r + (k - j) < 40 →
    ∃ R', Deed rows K (msL f 0 n ++ Z) (r + (k - j)) C R' ∧ ∀ res, Recv rows qN u now long C R' (loJ k) res → Recv rows qN u now long C R (loJ j) res := by
  intro k j
  generalize hd : k - j = d
  induction d generalizing j with
  | zero =>
    intro r R hj hk hw h hl
    obtain rfl : j = k := by omega
    exact ⟨R, h, fun _ h => h⟩
  | succ d ih =>
    intro r R hj hk hw h hl
    have hL := msL_in (f := f) hz (show j ≤ n by omega) hn
    rw [msL_cons (f := f) (j := j) (n := n) (by omega)] at hL
    obtain ⟨hmb, hmn⟩ := hm j (by omega)
    obtain ⟨R1, d1, e1⟩ := h.recv_skip (name := qN) (u := u) (now := now) (long := long) (m := f j) (n := j) hL hmb hmn (by omega) (hw j (Nat.le_refl _) (by omega)) (by omega)
    obtain ⟨R2, d2, e2⟩ := ih (j := j + 1) (by omega) (by omega) hk (fun i h1 h2 => hw i (by omega) h2) d1 (by omega)
    refine ⟨R2, d2.more (by omega), fun res hres => e1 res ?_⟩
    rw [← loJ_next]
    exact e2 res hres
/-- Messages ahead of k wait; k is taken. -/
theorem Deed.takes {f : Nat → Ms} {n k : Nat} {Z : List Rw} {u : Qu} {now long : Int} (hr : QRows rows) (hz : ZQ Z u) (hu : u.ok) (hn : n < 1000000) (hm : ∀ i, i < n → ¬ (f i).bad ∧ (f i).num = i) (hk : k < n) (hw : ∀ i, i < k → now < (f i).until_) (hw2 : (f k).until_ ≤ now) (ht : (f k).tries < u.tries) (hm2 : ¬ ((f k).more (now + long)).bad) (h1 : 0 ≤ now ∧ now ≤ 1000000) (h2 : 0 ≤ long ∧ long ≤ 1000000)
    (h : Deed rows K (msL f 0 n ++ Z) r C R) (hkK : msgB qN k ∈ K) (hK : K.length ≤ 12) (hl : r + k + 1 < 40) :
    ∃ C' R', RecvAns rows C R qN now long ((f k).more (now + long), 0, C', R') ∧ Deed rows K (msL (fun i => if i = k then (f k).more (now + long) else f i) 0 n ++ Z) (r + k + 2) C' R' := by
  obtain ⟨R1, d1, e1⟩ := (h.find_reads qN).skips (u := u) (long := long) hz hn hm (k := k) (j := 0) (Nat.zero_le _) (by omega) (fun i _ hi => hw i hi) (by omega)
  have hL := msL_in (f := f) hz (show k ≤ n by omega) hn
  rw [msL_cons (f := f) (j := k) (n := n) hk] at hL
  obtain ⟨hmb, hmn⟩ := hm k hk
  obtain ⟨C', R', e2, d2⟩ := d1.recv_take hr (u := u) (now := now) (long := long) (m := f k) (n := k) qN_ok hL hmb hmn (by omega) hw2 ht hm2 hkK hK (by omega)
  rw [msL_set hz hk hn] at d2
  exact ⟨C', R', h.receive hr qN_ok (msL_val hz) hu h1 h2 (by omega) (e1 _ e2), d2.more (by omega)⟩
theorem ZQ.one (u : Qu) : ZQ [uR qN u] u where
  gt n z hz := by rw [List.mem_singleton.1 hz]; exact msg_que qN qN n
  out lo := one_L0 lo u
  val := one_que u
/-- One more is sent. -/
theorem Deed.sends {f : Nat → Ms} {n : Nat} {u : Qu} {body : ByteArray} (hr : QRows rows) (hu : u.ok) (hnx : u.next = n) (hn : n < 999999) (hb : body.size ≤ 28) (h : Deed rows K (msL f 0 n ++ [uR qN u]) r C R) (hk : queB qN ∈ K) (hk2 : msgB qN n ∈ K) (hK : K.length ≤ 12) (hl : r < 40) :
    ∃ C', SendA (valR rows (queB qN)) C R qN body 0 = ((n : Int), 0, C') ∧ Deed rows K (msL (fun i => if i = n then ⟨n, 0, 0, body⟩ else f i) 0 (n + 1) ++ [uR qN u.up]) (r + 1) C' (findR C R qN) := by
  obtain ⟨C', e, d⟩ := h.send hr (body := body) (til := 0) (n := n) qN_ok (msL_val (ZQ.one u)) hu hnx hn hb (by omega) hk hk2 hK hl
  have hA : ∀ a ∈ msL f 0 n, slt a.key (msgB qN n) = true := fun a ha => by
    obtain ⟨i, _, hi, rfl⟩ := mem_msL ha
    unfold mR
    rw [slt_msg qN i n (by omega) (by omega)]
    simpa using hi
  have f2 : appR (msL f 0 n ++ [uR qN u]) ⟨msgB qN n, (Ms.txt ⟨n, 0, 0, body⟩).1, false⟩ = (msL f 0 n ++ [mR qN n ⟨n, 0, 0, body⟩]) ++ uR qN u :: [] := by
    rw [app_ins rfl hA (fun z hz => by rw [List.mem_singleton.1 hz]; exact msg_que qN qN n)]
    simp [mR]
  rw [f2, app_rep (r := uR qN u) rfl (fun a ha => by
    rcases List.mem_append.1 ha with h | h
    · obtain ⟨i, _, _, rfl⟩ := mem_msL h; exact msg_que qN qN i
    · rw [List.mem_singleton.1 h]; exact msg_que qN qN n) rfl (fun _ h => (List.not_mem_nil h).elim)] at d
  refine ⟨C', e, ?_⟩
  rw [msL_split (f := fun i => if i = n then (⟨n, 0, 0, body⟩ : Ms) else f i) (Nat.zero_le n) (Nat.le_succ n), msL_cons (f := fun i => if i = n then (⟨n, 0, 0, body⟩ : Ms) else f i) (Nat.lt_succ_self n), msL_nil (Nat.le_refl _), msL_congr (f := fun i => if i = n then (⟨n, 0, 0, body⟩ : Ms) else f i) (g := f) (j := 0) (n := n) (fun i _ hi => if_neg (by omega))]
  simp only [if_true]
  exact d
end Go.Proofs.YtmknhibaoopjjaaGreatDoor
namespace Go.Proofs.YtmknhibaoopjjaaGreatDoor
open Go.RowKit
def nextB : ByteArray := ⟨#[110, 101, 120, 116]⟩
def fD (body : ByteArray) (i : Nat) (_ : Nat) : Ms := ⟨0, i, i, body⟩
theorem msg01 : slt (msgB qN 0) (msgB qN 1) = true := by rw [slt_msg qN 0 1 (by omega) (by omega)]; rfl
theorem fD_one (body : ByteArray) (i : Nat) : msL (fD body i) 0 1 = [mR qN 0 ⟨0, i, i, body⟩] := by
  rw [msL_cons (by omega), msL_nil (by omega)]; rfl
theorem ZQ.two (v u : Qu) : ZQ [uR dN v, uR qN u] u where
  gt n z hz := by
    rcases List.mem_cons.1 hz with rfl | hz
    · exact msg_que qN dN n
    · rw [List.mem_singleton.1 hz]; exact msg_que qN qN n
  out lo := by
    unfold inR uR
    simp [List.filter, has_qq]
  val := valR_in (A := [uR dN v]) (Z := []) (r := uR qN u) rfl (fun z hz => by rw [List.mem_singleton.1 hz]; exact que_dq)
variable {K : List ByteArray} {r : Nat} {C : List Ch} {R : List Sp}
/-- Told once more. -/
theorem dead_round {Z : List Rw} {u : Qu} {body : ByteArray} {i T : Nat} (hz : ZQ Z u) (hu : u.ok) (hT : u.tries = T) (hT9 : T ≤ 9) (hi : i < T) (hb : body.size ≤ 28) (h : Deed [] K (msL (fD body i) 0 1 ++ Z) r C R) (hk : msgB qN 0 ∈ K) (hK : K.length ≤ 12) (hl : r + 2 < 40) :
    ∃ C' R', RecvAns [] C R qN ((i + 1 : Nat) : Int) 0 (⟨0, ((i + 1 : Nat) : Int), ((i + 1 : Nat) : Int), body⟩, 0, C', R') ∧ Deed [] K (msL (fD body (i + 1)) 0 1 ++ Z) (r + 2) C' R' := by
  have hm : ∀ j, j < 1 → ¬ (fD body i j).bad ∧ (fD body i j).num = j := fun j hj => ⟨by unfold fD Ms.bad; dsimp only; omega, by unfold fD; dsimp only; omega⟩
  obtain ⟨C', R', e, d⟩ := h.takes QRows.nil hz hu (by omega) hm (k := 0) (by omega) (now := ((i + 1 : Nat) : Int)) (long := 0) (fun j hj => absurd hj (by omega)) (by unfold fD; dsimp only; omega) (by unfold fD; dsimp only; omega) (by unfold fD Ms.bad Ms.more; dsimp only; omega) (by omega) (by omega) hk hK (by omega)
  have hm : (fD body i 0).more (((i + 1 : Nat) : Int) + 0) = ⟨0, ((i + 1 : Nat) : Int), ((i + 1 : Nat) : Int), body⟩ := by
    unfold fD Ms.more
    simp
  rw [hm] at e d
  rw [msL_congr (g := fD body (i + 1)) (j := 0) (n := 1) (fun j _ hj => by rw [if_pos (by omega)]; rfl)] at d
  exact ⟨C', R', e, d⟩
/-- Nobody waits: it goes nowhere; nothing came of it. -/
theorem dead_end0 {body : ByteArray} {T : Nat} (hT : 1 ≤ T ∧ T ≤ 9) (hb : body.size ≤ 28) (h : Deed [] K (msL (fD body T) 0 1 ++ [uR qN ⟨1, T, ⟨#[]⟩⟩]) r C R) (hk : msgB qN 0 ∈ K) (hk1 : msgB qN 1 ∈ K) (hkq : queB qN ∈ K) (hK : K.length ≤ 12) (hl : r ≤ 25) :
    ∃ R1 C2 C3 R3 ml R4, RecvAns [] C R qN 99 0 (Ms.z, 12, C, R1) ∧ QInv C R1 ∧ SendA (valR [] (queB qN)) C R1 qN nextB 0 = (1, 0, C2) ∧ QInv C2 (findR C R1 qN) ∧ RecvAns [] C2 (findR C R1 qN) qN 99 0 (⟨1, 1, 99, nextB⟩, 0, C3, R3) ∧ QInv C3 R3 ∧ msgsA [] C3 R3 qN = (ml, 0, R4) ∧ ml.length = 1 := by
  have hu : Qu.ok ⟨1, T, ⟨#[]⟩⟩ := u_ok (by omega) (by omega)
  have hu2 : Qu.ok ⟨2, T, ⟨#[]⟩⟩ := u_ok (by omega) (by omega)
  have hmb : ¬ Ms.bad ⟨0, T, T, body⟩ := by unfold Ms.bad; dsimp only; omega
  have hmn : ¬ Ms.bad ⟨1, 0, 0, nextB⟩ := by unfold Ms.bad; rw [show nextB.size = 4 from rfl]; dsimp only; omega
  have hmn2 : ¬ Ms.bad ⟨1, 1, 99, nextB⟩ := by unfold Ms.bad; rw [show nextB.size = 4 from rfl]; dsimp only; omega
  have h0 := h
  rw [fD_one] at h
  -- nobody is left behind it
  obtain ⟨Ca, Ra, da, ea⟩ := (h.find_reads qN).recv_bury QRows.nil (name := qN) (lo := loB qN) (u := ⟨1, T, ⟨#[]⟩⟩) (now := 99) (long := 0) (m := ⟨0, T, T, body⟩) (n := 0) qN_ok rfl (one_L 0 _ _) hmb rfl (by omega) (by dsimp only; omega) (by dsimp only; omega) hk hK (by omega)
  rw [show ([mR qN 0 ⟨0, T, T, body⟩] ++ [uR qN ⟨1, T, ⟨#[]⟩⟩] : List Rw) = [mR qN 0 ⟨0, T, T, body⟩, uR qN ⟨1, T, ⟨#[]⟩⟩] from rfl, one_del] at da
  obtain ⟨R1, eb, db⟩ := da.recv_empty (name := qN) (lo := msgB qN 0 ++ nul) (u := ⟨1, T, ⟨#[]⟩⟩) (now := 99) (long := 0) (one_L0 _ _) (by omega)
  have e1 := h.receive_no QRows.nil qN_ok (one_val _ _ _) hu (now := 99) (long := 0) (by omega) (by omega) (by omega) (ea _ eb) (by simp)
  have d1 : Deed [] K (msL (fD body T) 0 1 ++ [uR qN ⟨1, T, ⟨#[]⟩⟩]) (r + 3) C R1 := ⟨h.inv.reads db.inv.r40, h.keys, h0.see, db.read⟩
  obtain ⟨C2, e2, d2⟩ := d1.sends QRows.nil (n := 1) (body := nextB) hu rfl (by omega) (by decide) hkq hk1 hK (by omega)
  have hD2 : msL (fun i => if i = 1 then (⟨((1 : Nat) : Int), 0, 0, nextB⟩ : Ms) else fD body T i) 0 (1 + 1) = [mR qN 0 ⟨0, T, T, body⟩, mR qN 1 ⟨1, 0, 0, nextB⟩] := by
    rw [msL_cons (by omega), msL_cons (by omega), msL_nil (by omega)]; rfl
  rw [hD2, show Qu.up ⟨1, T, ⟨#[]⟩⟩ = ⟨2, T, ⟨#[]⟩⟩ from rfl] at d2
  have hv2 : valR ([mR qN 0 ⟨0, T, T, body⟩, mR qN 1 ⟨1, 0, 0, nextB⟩] ++ [uR qN ⟨2, T, ⟨#[]⟩⟩]) (queB qN) = (Qu.txt ⟨2, T, ⟨#[]⟩⟩ |>.1, true) :=
    valR_in (A := [mR qN 0 ⟨0, T, T, body⟩, mR qN 1 ⟨1, 0, 0, nextB⟩]) (Z := []) (r := uR qN ⟨2, T, ⟨#[]⟩⟩) rfl (fun z hz => by
      rcases List.mem_cons.1 hz with rfl | hz
      · exact msg_que qN qN 0
      · rw [List.mem_singleton.1 hz]; exact msg_que qN qN 1)
  have hL2 : inR (loB qN) (hiB qN) ([mR qN 0 ⟨0, T, T, body⟩, mR qN 1 ⟨1, 0, 0, nextB⟩] ++ [uR qN ⟨2, T, ⟨#[]⟩⟩]) = ⟨msgB qN 0, (Ms.txt ⟨0, T, T, body⟩).1⟩ :: [mR qN 1 ⟨1, 0, 0, nextB⟩] := by
    unfold inR mR uR
    simp [List.filter, has_q0, has_qq]
  obtain ⟨Cc, Rc, dc, ec⟩ := (d2.find_reads qN).recv_bury QRows.nil (name := qN) (lo := loB qN) (u := ⟨2, T, ⟨#[]⟩⟩) (now := 99) (long := 0) (m := ⟨0, T, T, body⟩) (n := 0) qN_ok rfl hL2 hmb rfl (by omega) (by dsimp only; omega) (by dsimp only; omega) hk hK (by omega)
  have fD2 : appR ([mR qN 0 ⟨0, T, T, body⟩, mR qN 1 ⟨1, 0, 0, nextB⟩] ++ [uR qN ⟨2, T, ⟨#[]⟩⟩]) ⟨msgB qN 0, ⟨#[]⟩, true⟩ = [mR qN 1 ⟨1, 0, 0, nextB⟩, uR qN ⟨2, T, ⟨#[]⟩⟩] :=
    app_del (A := []) (Z := [mR qN 1 ⟨1, 0, 0, nextB⟩, uR qN ⟨2, T, ⟨#[]⟩⟩]) (r := mR qN 0 ⟨0, T, T, body⟩) rfl (fun _ h => (List.not_mem_nil h).elim) rfl (fun z hz => by
      rcases List.mem_cons.1 hz with rfl | hz
      · exact msg01
      · rw [List.mem_singleton.1 hz]; exact msg_que qN qN 0)
  rw [fD2] at dc
  have hL3 : inR (msgB qN 0 ++ nul) (hiB qN) [mR qN 1 ⟨1, 0, 0, nextB⟩, uR qN ⟨2, T, ⟨#[]⟩⟩] = ⟨msgB qN 1, (Ms.txt ⟨1, 0, 0, nextB⟩).1⟩ :: [] := by
    unfold inR mR uR
    simp [List.filter, has_q1 0 1 (by omega) (by omega), has_qq]
  obtain ⟨C3, R3, ed, dd⟩ := dc.recv_take QRows.nil (name := qN) (lo := msgB qN 0 ++ nul) (u := ⟨2, T, ⟨#[]⟩⟩) (now := 99) (long := 0) (m := ⟨1, 0, 0, nextB⟩) (n := 1) qN_ok hL3 hmn rfl (by omega) (by dsimp only; omega) (by dsimp only; omega) hmn2 hk1 hK (by omega)
  have e3 := d2.receive QRows.nil qN_ok hv2 hu2 (now := 99) (long := 0) (by omega) (by omega) (by omega) (ec _ ed)
  have fD3 : appR [mR qN 1 ⟨1, 0, 0, nextB⟩, uR qN ⟨2, T, ⟨#[]⟩⟩] ⟨msgB qN 1, (Ms.txt (Ms.more ⟨1, 0, 0, nextB⟩ (99 + 0))).1, false⟩ = [mR qN 1 ⟨1, 1, 99, nextB⟩, uR qN ⟨2, T, ⟨#[]⟩⟩] := one_set 1 _ ⟨1, 1, 99, nextB⟩ _
  rw [fD3] at dd
  obtain ⟨R4, e4, d4⟩ := dd.msgs QRows.nil qN_ok (one_val _ _ _) hu2 [(1, ⟨1, 1, 99, nextB⟩)] (one_L 1 _ _) (fun x hx => by rw [List.mem_singleton.1 hx]; exact ⟨by dsimp only; omega, rfl, hmn2⟩) (by simp) (by omega)
  exact ⟨R1, C2, C3, R3, _, R4, e1, d1.inv, e2, d2.inv, e3, dd.inv, e4, rfl⟩
/-- It goes on to queue d. -/
theorem dead_end1 {body : ByteArray} {T : Nat} (hT : 1 ≤ T ∧ T ≤ 9) (hb : body.size ≤ 28) (h : Deed [] K (msL (fD body T) 0 1 ++ [uR dN ⟨0, 1, ⟨#[]⟩⟩, uR qN ⟨1, T, dN⟩]) r C R) (hk : msgB qN 0 ∈ K) (hk1 : msgB qN 1 ∈ K) (hkq : queB qN ∈ K) (hkd : queB dN ∈ K) (hkm : msgB dN 0 ∈ K) (hK : K.length ≤ 12) (hl : r ≤ 22) :
    ∃ R1 C2 C3 R3 ml R4 R5, RecvAns [] C R qN 99 0 (Ms.z, 12, C, R1) ∧ QInv C R1 ∧ SendA (valR [] (queB qN)) C R1 qN nextB 0 = (1, 0, C2) ∧ QInv C2 (findR C R1 qN) ∧ RecvAns [] C2 (findR C R1 qN) qN 99 0 (⟨1, 1, 99, nextB⟩, 0, C3, R3) ∧ QInv C3 R3 ∧ msgsA [] C3 R3 qN = (ml, 0, R4) ∧ ml.length = 1 ∧ QInv C3 R4 ∧ msgsA [] C3 R4 dN = ([⟨0, 0, 0, body⟩], 0, R5) := by
  have hu : Qu.ok ⟨1, T, dN⟩ := ⟨by unfold Qu.bad; dsimp only; omega, .inr dN_ok⟩
  have hu2 : Qu.ok ⟨2, T, dN⟩ := ⟨by unfold Qu.bad; dsimp only; omega, .inr dN_ok⟩
  have hd0 : Qu.ok ⟨0, 1, ⟨#[]⟩⟩ := u_ok (by omega) (by omega)
  have hd1 : Qu.ok ⟨1, 1, ⟨#[]⟩⟩ := u_ok (by omega) (by omega)
  have hmb : ¬ Ms.bad ⟨0, T, T, body⟩ := by unfold Ms.bad; dsimp only; omega
  have hmd : ¬ Ms.bad ⟨0, 0, 0, body⟩ := by unfold Ms.bad; dsimp only; omega
  have hmn : ¬ Ms.bad ⟨1, 0, 0, nextB⟩ := by unfold Ms.bad; rw [show nextB.size = 4 from rfl]; dsimp only; omega
  have hmn2 : ¬ Ms.bad ⟨1, 1, 99, nextB⟩ := by unfold Ms.bad; rw [show nextB.size = 4 from rfl]; dsimp only; omega
  have h0 := h
  rw [fD_one] at h
  have hv1 : valR ([mR qN 0 ⟨0, T, T, body⟩] ++ [uR dN ⟨0, 1, ⟨#[]⟩⟩, uR qN ⟨1, T, dN⟩]) (queB qN) = ((Qu.txt ⟨1, T, dN⟩).1, true) :=
    valR_in (A := [mR qN 0 ⟨0, T, T, body⟩, uR dN ⟨0, 1, ⟨#[]⟩⟩]) (Z := []) (r := uR qN ⟨1, T, dN⟩) rfl (fun z hz => by
      rcases List.mem_cons.1 hz with rfl | hz
      · exact msg_que qN qN 0
      · rw [List.mem_singleton.1 hz]; exact que_dq)
  have hL1 : inR (loB qN) (hiB qN) ([mR qN 0 ⟨0, T, T, body⟩] ++ [uR dN ⟨0, 1, ⟨#[]⟩⟩, uR qN ⟨1, T, dN⟩]) = ⟨msgB qN 0, (Ms.txt ⟨0, T, T, body⟩).1⟩ :: [] := by
    unfold inR mR uR
    simp [List.filter, has_q0, has_qq]
  have fDel : ∀ (Z : List Rw), (∀ z ∈ Z, slt (msgB qN 0) z.key = true) → appR (mR qN 0 ⟨0, T, T, body⟩ :: Z) ⟨msgB qN 0, ⟨#[]⟩, true⟩ = Z := fun Z hZ =>
    app_del (A := []) (Z := Z) (r := mR qN 0 ⟨0, T, T, body⟩) rfl (fun _ h => (List.not_mem_nil h).elim) rfl hZ
  have z1 : ∀ (v u : Qu), ∀ z ∈ [uR dN v, uR qN u], slt (msgB qN 0) z.key = true := fun v u => (ZQ.two v u).gt 0
  have g1 : appR ([mR qN 0 ⟨0, T, T, body⟩] ++ [uR dN ⟨0, 1, ⟨#[]⟩⟩, uR qN ⟨1, T, dN⟩]) ⟨msgB qN 0, ⟨#[]⟩, true⟩ = [uR dN ⟨0, 1, ⟨#[]⟩⟩, uR qN ⟨1, T, dN⟩] := fDel _ (z1 _ _)
  have hvd : ∀ u : Qu, valR [uR dN ⟨0, 1, ⟨#[]⟩⟩, uR qN u] (queB dN) = ((Qu.txt ⟨0, 1, ⟨#[]⟩⟩).1, true) := fun u =>
    valR_in (A := []) (Z := [uR qN u]) (r := uR dN ⟨0, 1, ⟨#[]⟩⟩) rfl (fun _ h => (List.not_mem_nil h).elim)
  have g2 : ∀ u : Qu, appR [uR dN ⟨0, 1, ⟨#[]⟩⟩, uR qN u] ⟨msgB dN 0, (Ms.txt ⟨0, 0, 0, body⟩).1, false⟩ = [mR dN 0 ⟨0, 0, 0, body⟩, uR dN ⟨0, 1, ⟨#[]⟩⟩, uR qN u] := fun u =>
    app_ins (A := []) (Z := [uR dN ⟨0, 1, ⟨#[]⟩⟩, uR qN u]) rfl (fun _ h => (List.not_mem_nil h).elim) (fun z hz => by
      rcases List.mem_cons.1 hz with rfl | hz
      · exact msg_que dN dN 0
      · rw [List.mem_singleton.1 hz]; exact msg_que dN qN 0)
  have g3 : ∀ u : Qu, appR [mR dN 0 ⟨0, 0, 0, body⟩, uR dN ⟨0, 1, ⟨#[]⟩⟩, uR qN u] ⟨queB dN, (Qu.txt ⟨1, 1, ⟨#[]⟩⟩).1, false⟩ = [mR dN 0 ⟨0, 0, 0, body⟩, uR dN ⟨1, 1, ⟨#[]⟩⟩, uR qN u] := fun u =>
    app_rep (A := [mR dN 0 ⟨0, 0, 0, body⟩]) (Z := [uR qN u]) (r := uR dN ⟨0, 1, ⟨#[]⟩⟩) rfl (fun z hz => by rw [List.mem_singleton.1 hz]; exact msg_que dN dN 0) rfl (fun z hz => by rw [List.mem_singleton.1 hz]; exact que_dq)
  obtain ⟨Ca, Ra, da, ea⟩ := (h.find_reads qN).recv_pass QRows.nil (name := qN) (lo := loB qN) (u := ⟨1, T, dN⟩) (v := ⟨0, 1, ⟨#[]⟩⟩) (now := 99) (long := 0) (m := ⟨0, T, T, body⟩) (n := 0) (k := 0) qN_ok dN_ok hL1 hmb rfl (by omega) (by dsimp only; omega) (by dsimp only; omega) hk hK (by rw [g1]; exact hvd _) hd0 rfl (by omega) hkd hkm (by omega)
  rw [g1, show (Ms.txt ⟨((0 : Nat) : Int), 0, 0, body⟩) = Ms.txt ⟨0, 0, 0, body⟩ from rfl, g2, show Qu.up ⟨0, 1, ⟨#[]⟩⟩ = ⟨1, 1, ⟨#[]⟩⟩ from rfl, g3] at da
  have hL0 : inR (msgB qN 0 ++ nul) (hiB qN) [mR dN 0 ⟨0, 0, 0, body⟩, uR dN ⟨1, 1, ⟨#[]⟩⟩, uR qN ⟨1, T, dN⟩] = [] := by
    unfold inR mR uR
    simp [List.filter, has_d1, has_qq]
  obtain ⟨R1, eb, db⟩ := da.recv_empty (name := qN) (lo := msgB qN 0 ++ nul) (u := ⟨1, T, dN⟩) (now := 99) (long := 0) hL0 (by omega)
  have e1 := h.receive_no QRows.nil qN_ok hv1 hu (now := 99) (long := 0) (by omega) (by omega) (by omega) (ea _ eb) (by simp)
  have d1 : Deed [] K ([mR qN 0 ⟨0, T, T, body⟩] ++ [uR dN ⟨0, 1, ⟨#[]⟩⟩, uR qN ⟨1, T, dN⟩]) (r + 4) C R1 := ⟨h.inv.reads db.inv.r40, h.keys, h.see, db.read⟩
  obtain ⟨C2, e2, d2⟩ := d1.send QRows.nil (body := nextB) (til := 0) (n := 1) qN_ok hv1 hu rfl (by omega) (by decide) (by omega) hkq hk1 hK (by omega)
  have s1 : appR ([mR qN 0 ⟨0, T, T, body⟩] ++ [uR dN ⟨0, 1, ⟨#[]⟩⟩, uR qN ⟨1, T, dN⟩]) ⟨msgB qN 1, (Ms.txt ⟨1, 0, 0, nextB⟩).1, false⟩ = [mR qN 0 ⟨0, T, T, body⟩] ++ mR qN 1 ⟨1, 0, 0, nextB⟩ :: [uR dN ⟨0, 1, ⟨#[]⟩⟩, uR qN ⟨1, T, dN⟩] :=
    app_ins rfl (fun z hz => by rw [List.mem_singleton.1 hz]; exact msg01) ((ZQ.two _ _).gt 1)
  have s2 : appR ([mR qN 0 ⟨0, T, T, body⟩] ++ mR qN 1 ⟨1, 0, 0, nextB⟩ :: [uR dN ⟨0, 1, ⟨#[]⟩⟩, uR qN ⟨1, T, dN⟩]) ⟨queB qN, (Qu.txt ⟨2, T, dN⟩).1, false⟩ = mR qN 0 ⟨0, T, T, body⟩ :: mR qN 1 ⟨1, 0, 0, nextB⟩ :: [uR dN ⟨0, 1, ⟨#[]⟩⟩, uR qN ⟨2, T, dN⟩] :=
    app_rep (A := [mR qN 0 ⟨0, T, T, body⟩, mR qN 1 ⟨1, 0, 0, nextB⟩, uR dN ⟨0, 1, ⟨#[]⟩⟩]) (Z := []) (r := uR qN ⟨1, T, dN⟩) rfl (fun z hz => by
      rcases List.mem_cons.1 hz with rfl | hz
      · exact msg_que qN qN 0
      · rcases List.mem_cons.1 hz with rfl | hz
        · exact msg_que qN qN 1
        · rw [List.mem_singleton.1 hz]; exact que_dq) rfl (fun _ h => (List.not_mem_nil h).elim)
  rw [show (Ms.txt ⟨((1 : Nat) : Int), 0, 0, nextB⟩) = Ms.txt ⟨1, 0, 0, nextB⟩ from rfl, s1, show Qu.up ⟨1, T, dN⟩ = ⟨2, T, dN⟩ from rfl, s2] at d2
  have hv2 : valR (mR qN 0 ⟨0, T, T, body⟩ :: mR qN 1 ⟨1, 0, 0, nextB⟩ :: [uR dN ⟨0, 1, ⟨#[]⟩⟩, uR qN ⟨2, T, dN⟩]) (queB qN) = ((Qu.txt ⟨2, T, dN⟩).1, true) :=
    valR_in (A := [mR qN 0 ⟨0, T, T, body⟩, mR qN 1 ⟨1, 0, 0, nextB⟩, uR dN ⟨0, 1, ⟨#[]⟩⟩]) (Z := []) (r := uR qN ⟨2, T, dN⟩) rfl (fun z hz => by
      rcases List.mem_cons.1 hz with rfl | hz
      · exact msg_que qN qN 0
      · rcases List.mem_cons.1 hz with rfl | hz
        · exact msg_que qN qN 1
        · rw [List.mem_singleton.1 hz]; exact que_dq)
  have hL2 : inR (loB qN) (hiB qN) (mR qN 0 ⟨0, T, T, body⟩ :: mR qN 1 ⟨1, 0, 0, nextB⟩ :: [uR dN ⟨0, 1, ⟨#[]⟩⟩, uR qN ⟨2, T, dN⟩]) = ⟨msgB qN 0, (Ms.txt ⟨0, T, T, body⟩).1⟩ :: [mR qN 1 ⟨1, 0, 0, nextB⟩] := by
    unfold inR mR uR
    simp [List.filter, has_q0, has_qq]
  have z2 : ∀ z ∈ mR qN 1 ⟨1, 0, 0, nextB⟩ :: [uR dN ⟨0, 1, ⟨#[]⟩⟩, uR qN ⟨2, T, dN⟩], slt (msgB qN 0) z.key = true := fun z hz => by
    rcases List.mem_cons.1 hz with rfl | hz
    · exact msg01
    · exact z1 _ _ z hz
  have k1 := fDel _ z2
  have hvd2 : valR (mR qN 1 ⟨1, 0, 0, nextB⟩ :: [uR dN ⟨0, 1, ⟨#[]⟩⟩, uR qN ⟨2, T, dN⟩]) (queB dN) = ((Qu.txt ⟨0, 1, ⟨#[]⟩⟩).1, true) :=
    valR_in (A := [mR qN 1 ⟨1, 0, 0, nextB⟩]) (Z := [uR qN ⟨2, T, dN⟩]) (r := uR dN ⟨0, 1, ⟨#[]⟩⟩) rfl (fun z hz => by rw [List.mem_singleton.1 hz]; exact msg_que qN dN 1)
  have k2 : appR (mR qN 1 ⟨1, 0, 0, nextB⟩ :: [uR dN ⟨0, 1, ⟨#[]⟩⟩, uR qN ⟨2, T, dN⟩]) ⟨msgB dN 0, (Ms.txt ⟨0, 0, 0, body⟩).1, false⟩ = mR dN 0 ⟨0, 0, 0, body⟩ :: mR qN 1 ⟨1, 0, 0, nextB⟩ :: [uR dN ⟨0, 1, ⟨#[]⟩⟩, uR qN ⟨2, T, dN⟩] :=
    app_ins (A := []) (Z := mR qN 1 ⟨1, 0, 0, nextB⟩ :: [uR dN ⟨0, 1, ⟨#[]⟩⟩, uR qN ⟨2, T, dN⟩]) rfl (fun _ h => (List.not_mem_nil h).elim) (fun z hz => by
      rcases List.mem_cons.1 hz with rfl | hz
      · exact msg_dq 0 1
      · rcases List.mem_cons.1 hz with rfl | hz
        · exact msg_que dN dN 0
        · rw [List.mem_singleton.1 hz]; exact msg_que dN qN 0)
  have k3 : appR (mR dN 0 ⟨0, 0, 0, body⟩ :: mR qN 1 ⟨1, 0, 0, nextB⟩ :: [uR dN ⟨0, 1, ⟨#[]⟩⟩, uR qN ⟨2, T, dN⟩]) ⟨queB dN, (Qu.txt ⟨1, 1, ⟨#[]⟩⟩).1, false⟩ = mR dN 0 ⟨0, 0, 0, body⟩ :: mR qN 1 ⟨1, 0, 0, nextB⟩ :: [uR dN ⟨1, 1, ⟨#[]⟩⟩, uR qN ⟨2, T, dN⟩] :=
    app_rep (A := [mR dN 0 ⟨0, 0, 0, body⟩, mR qN 1 ⟨1, 0, 0, nextB⟩]) (Z := [uR qN ⟨2, T, dN⟩]) (r := uR dN ⟨0, 1, ⟨#[]⟩⟩) rfl (fun z hz => by
      rcases List.mem_cons.1 hz with rfl | hz
      · exact msg_que dN dN 0
      · rw [List.mem_singleton.1 hz]; exact msg_que qN dN 1) rfl (fun z hz => by rw [List.mem_singleton.1 hz]; exact que_dq)
  obtain ⟨Cc, Rc, dc, ec⟩ := (d2.find_reads qN).recv_pass QRows.nil (name := qN) (lo := loB qN) (u := ⟨2, T, dN⟩) (v := ⟨0, 1, ⟨#[]⟩⟩) (now := 99) (long := 0) (m := ⟨0, T, T, body⟩) (n := 0) (k := 0) qN_ok dN_ok hL2 hmb rfl (by omega) (by dsimp only; omega) (by dsimp only; omega) hk hK (by rw [k1]; exact hvd2) hd0 rfl (by omega) hkd hkm (by omega)
  rw [k1, show (Ms.txt ⟨((0 : Nat) : Int), 0, 0, body⟩) = Ms.txt ⟨0, 0, 0, body⟩ from rfl, k2, show Qu.up ⟨0, 1, ⟨#[]⟩⟩ = ⟨1, 1, ⟨#[]⟩⟩ from rfl, k3] at dc
  have hL3 : inR (msgB qN 0 ++ nul) (hiB qN) (mR dN 0 ⟨0, 0, 0, body⟩ :: mR qN 1 ⟨1, 0, 0, nextB⟩ :: [uR dN ⟨1, 1, ⟨#[]⟩⟩, uR qN ⟨2, T, dN⟩]) = ⟨msgB qN 1, (Ms.txt ⟨1, 0, 0, nextB⟩).1⟩ :: [] := by
    unfold inR mR uR
    simp [List.filter, has_d1, has_q1 0 1 (by omega) (by omega), has_qq]
  obtain ⟨C3, R3, ed, dd⟩ := dc.recv_take QRows.nil (name := qN) (lo := msgB qN 0 ++ nul) (u := ⟨2, T, dN⟩) (now := 99) (long := 0) (m := ⟨1, 0, 0, nextB⟩) (n := 1) qN_ok hL3 hmn rfl (by omega) (by dsimp only; omega) (by dsimp only; omega) hmn2 hk1 hK (by omega)
  have e3 := d2.receive QRows.nil qN_ok hv2 hu2 (now := 99) (long := 0) (by omega) (by omega) (by omega) (ec _ ed)
  have k4 : appR (mR dN 0 ⟨0, 0, 0, body⟩ :: mR qN 1 ⟨1, 0, 0, nextB⟩ :: [uR dN ⟨1, 1, ⟨#[]⟩⟩, uR qN ⟨2, T, dN⟩]) ⟨msgB qN 1, (Ms.txt (Ms.more ⟨1, 0, 0, nextB⟩ (99 + 0))).1, false⟩ = mR dN 0 ⟨0, 0, 0, body⟩ :: mR qN 1 ⟨1, 1, 99, nextB⟩ :: [uR dN ⟨1, 1, ⟨#[]⟩⟩, uR qN ⟨2, T, dN⟩] :=
    app_rep (A := [mR dN 0 ⟨0, 0, 0, body⟩]) (Z := [uR dN ⟨1, 1, ⟨#[]⟩⟩, uR qN ⟨2, T, dN⟩]) (r := mR qN 1 ⟨1, 0, 0, nextB⟩) rfl (fun z hz => by rw [List.mem_singleton.1 hz]; exact msg_dq 0 1) rfl ((ZQ.two _ _).gt 1)
  rw [k4] at dd
  have hv4 : valR (mR dN 0 ⟨0, 0, 0, body⟩ :: mR qN 1 ⟨1, 1, 99, nextB⟩ :: [uR dN ⟨1, 1, ⟨#[]⟩⟩, uR qN ⟨2, T, dN⟩]) (queB qN) = ((Qu.txt ⟨2, T, dN⟩).1, true) :=
    valR_in (A := [mR dN 0 ⟨0, 0, 0, body⟩, mR qN 1 ⟨1, 1, 99, nextB⟩, uR dN ⟨1, 1, ⟨#[]⟩⟩]) (Z := []) (r := uR qN ⟨2, T, dN⟩) rfl (fun z hz => by
      rcases List.mem_cons.1 hz with rfl | hz
      · exact msg_que dN qN 0
      · rcases List.mem_cons.1 hz with rfl | hz
        · exact msg_que qN qN 1
        · rw [List.mem_singleton.1 hz]; exact que_dq)
  have hv5 : valR (mR dN 0 ⟨0, 0, 0, body⟩ :: mR qN 1 ⟨1, 1, 99, nextB⟩ :: [uR dN ⟨1, 1, ⟨#[]⟩⟩, uR qN ⟨2, T, dN⟩]) (queB dN) = ((Qu.txt ⟨1, 1, ⟨#[]⟩⟩).1, true) :=
    valR_in (A := [mR dN 0 ⟨0, 0, 0, body⟩, mR qN 1 ⟨1, 1, 99, nextB⟩]) (Z := [uR qN ⟨2, T, dN⟩]) (r := uR dN ⟨1, 1, ⟨#[]⟩⟩) rfl (fun z hz => by
      rcases List.mem_cons.1 hz with rfl | hz
      · exact msg_que dN dN 0
      · rw [List.mem_singleton.1 hz]; exact msg_que qN dN 1)
  have hL4 : inR (loB qN) (hiB qN) (mR dN 0 ⟨0, 0, 0, body⟩ :: mR qN 1 ⟨1, 1, 99, nextB⟩ :: [uR dN ⟨1, 1, ⟨#[]⟩⟩, uR qN ⟨2, T, dN⟩]) = [mR qN 1 ⟨1, 1, 99, nextB⟩] := by
    unfold inR mR uR
    simp [List.filter, has_q0, has_dq, has_qq]
  have hL5 : inR (loB dN) (hiB dN) (mR dN 0 ⟨0, 0, 0, body⟩ :: mR qN 1 ⟨1, 1, 99, nextB⟩ :: [uR dN ⟨1, 1, ⟨#[]⟩⟩, uR qN ⟨2, T, dN⟩]) = [mR dN 0 ⟨0, 0, 0, body⟩] := by
    unfold inR mR uR
    simp [List.filter, has_d0, has_qd, has_qq]
  obtain ⟨R4, e4, d4⟩ := dd.msgs QRows.nil qN_ok hv4 hu2 [(1, ⟨1, 1, 99, nextB⟩)] hL4 (fun x hx => by rw [List.mem_singleton.1 hx]; exact ⟨by dsimp only; omega, rfl, hmn2⟩) (by simp) (by omega)
  obtain ⟨R5, e5, d5⟩ := d4.msgs QRows.nil dN_ok hv5 hd1 [(0, ⟨0, 0, 0, body⟩)] hL5 (fun x hx => by rw [List.mem_singleton.1 hx]; exact ⟨by dsimp only; omega, rfl, hmd⟩) (by simp) (by omega)
  exact ⟨R1, C2, C3, R3, _, R4, R5, e1, d1.inv, e2, d2.inv, e3, dd.inv, e4, rfl, d4.inv, e5⟩
/-- Both queues are made, and a message is sent. -/
theorem dead_start1 {T : Nat} {body : ByteArray} (hT : 1 ≤ T ∧ T ≤ 9) (hb : body.size ≤ 28) (hk : msgB qN 0 ∈ K) (hkq : queB qN ∈ K) (hkd : queB dN ∈ K) (hK : K.length ≤ 12) :
    ∃ C0 R0 C1 R1 C2, createA (valR []) [] [] dN 1 ⟨#[]⟩ = (0, C0, R0) ∧ QInv C0 R0 ∧ createA (valR []) C0 R0 qN T dN = (0, C1, R1) ∧ QInv C1 R1 ∧ SendA (valR [] (queB qN)) C1 R1 qN body 0 = (0, 0, C2) ∧ Deed [] K (msL (fD body 0) 0 1 ++ [uR dN ⟨0, 1, ⟨#[]⟩⟩, uR qN ⟨1, T, dN⟩]) 4 C2 (findR C1 R1 qN) := by
  obtain ⟨C0, R0, e0, d0⟩ := (Deed.start [] K).create QRows.nil (tries := 1) dN_ok (by rfl) (by omega) hkd hK (by omega)
  have f0 : appR [] ⟨queB dN, (Qu.txt ⟨0, 1, ⟨#[]⟩⟩).1, false⟩ = [uR dN ⟨0, 1, ⟨#[]⟩⟩] := rfl
  rw [f0] at d0
  have hv0 : (valR [uR dN ⟨0, 1, ⟨#[]⟩⟩] (queB qN)).2 = false := by
    rw [valR_out fun x hx => by rw [List.mem_singleton.1 hx]; exact slt_ne que_dq]
  have hvd : valR [uR dN ⟨0, 1, ⟨#[]⟩⟩] (queB dN) = ((Qu.txt ⟨0, 1, ⟨#[]⟩⟩).1, true) := valR_in (A := []) (Z := []) (r := uR dN ⟨0, 1, ⟨#[]⟩⟩) rfl (fun _ h => (List.not_mem_nil h).elim)
  obtain ⟨C1, R1, e1, d1⟩ := d0.create_dead QRows.nil (tries := T) qN_ok dN_ok dN_ne hv0 hvd (u_ok (by omega) (by omega)) (by omega) hkq hK (by omega)
  have f1 : appR [uR dN ⟨0, 1, ⟨#[]⟩⟩] ⟨queB qN, (Qu.txt ⟨0, T, dN⟩).1, false⟩ = [uR dN ⟨0, 1, ⟨#[]⟩⟩, uR qN ⟨0, T, dN⟩] := app_ins (A := [uR dN ⟨0, 1, ⟨#[]⟩⟩]) (Z := []) rfl (fun z hz => by rw [List.mem_singleton.1 hz]; exact que_dq) (fun _ h => (List.not_mem_nil h).elim)
  rw [f1] at d1
  have hu0 : Qu.ok ⟨0, T, dN⟩ := ⟨by unfold Qu.bad; dsimp only; omega, .inr dN_ok⟩
  obtain ⟨C2, e2, d2⟩ := d1.send QRows.nil (body := body) (til := 0) (n := 0) qN_ok (ZQ.two _ _).val hu0 rfl (by omega) hb (by omega) hkq hk hK (by omega)
  have f2 : appR [uR dN ⟨0, 1, ⟨#[]⟩⟩, uR qN ⟨0, T, dN⟩] ⟨msgB qN 0, (Ms.txt ⟨0, 0, 0, body⟩).1, false⟩ = [mR qN 0 ⟨0, 0, 0, body⟩, uR dN ⟨0, 1, ⟨#[]⟩⟩, uR qN ⟨0, T, dN⟩] := app_ins (A := []) (Z := [uR dN ⟨0, 1, ⟨#[]⟩⟩, uR qN ⟨0, T, dN⟩]) rfl (fun _ h => (List.not_mem_nil h).elim) ((ZQ.two _ _).gt 0)
  have f3 : appR [mR qN 0 ⟨0, 0, 0, body⟩, uR dN ⟨0, 1, ⟨#[]⟩⟩, uR qN ⟨0, T, dN⟩] ⟨queB qN, (Qu.txt ⟨1, T, dN⟩).1, false⟩ = [mR qN 0 ⟨0, 0, 0, body⟩, uR dN ⟨0, 1, ⟨#[]⟩⟩, uR qN ⟨1, T, dN⟩] :=
    app_rep (A := [mR qN 0 ⟨0, 0, 0, body⟩, uR dN ⟨0, 1, ⟨#[]⟩⟩]) (Z := []) (r := uR qN ⟨0, T, dN⟩) rfl (fun z hz => by
      rcases List.mem_cons.1 hz with rfl | hz
      · exact msg_que qN qN 0
      · rw [List.mem_singleton.1 hz]; exact que_dq) rfl (fun _ h => (List.not_mem_nil h).elim)
  rw [show (Ms.txt ⟨((0 : Nat) : Int), 0, 0, body⟩) = Ms.txt ⟨0, 0, 0, body⟩ from rfl, f2, show Qu.up ⟨0, T, dN⟩ = ⟨1, T, dN⟩ from rfl, f3] at d2
  refine ⟨C0, R0, C1, R1, C2, e0, d0.inv, e1, d1.inv, e2, ?_⟩
  rw [fD_one]
  exact d2
end Go.Proofs.YtmknhibaoopjjaaGreatDoor
namespace Go.Proofs.YtmknhibaoopjjaaGreatDoor
open Go.RowKit
theorem cMsgs1 (q p : Nat) {C : List Ch} {R R' : List Sp} {name body : ByteArray} (hI : QInv C R) (hn : name.size ≤ 200) (e : msgsA [] C R name = ([⟨0, 0, 0, body⟩], 0, R')) :
    Does Tryz.prog 57 #[.pointer (some ⟨q, 0, none⟩), .string name] [ViewR q p 0 C R, VerR p 0 (newV []), .imm LibOk] (fun x : Option Addr × Nat => (.tuple #[.slice x.1 1 x.2, .nilIface], [ViewR q p 0 C R', VerR p 0 (newV []), .imm LibOk, Row2 104 4 x.1 1 x.2 [.int .i64 0, .int .i64 0, .int .i64 0, .string body]])) :=
  cMsgs q p hI hn e
set_option maxHeartbeats 8000000 in
set_option maxRecDepth 100000 in
theorem topDead_any (body : ByteArray) (tries : Int) (dead : Bool) (w : World) (h : LibOk w) (hbs : body.size ≤ maxLen) : Calls Tryz.prog 10 #[.string body, .int .i64 tries, .bool dead] w fun e w' => e = .returned (.bool true) ∧ Ext w w' := by
  have hO := lib_base h
  have HW := fun w h => waits_any w h
  have hbs2 : body.size ≤ 9223372036854775807 := hbs
  by_cases hg : body.size ≤ 28 ∧ 1 ≤ tries ∧ tries ≤ 9
  · obtain ⟨hb, ht0, ht1⟩ := hg
    obtain ⟨T, rfl⟩ : ∃ T : Nat, tries = (T : Int) := ⟨tries.toNat, by omega⟩
    have hT : 1 ≤ T ∧ T ≤ 9 := by omega
    obtain ⟨hT0, hT9⟩ := hT
    clear ht0 ht1
    have HN := vnew_does none 0 0 [] rfl (by omega) (by simp)
    rw [List.flatMap_nil] at HN
    have HVN := fun p => vwNew_does p 0 (newV [])
    cases dead with
    | false =>
      obtain ⟨C1, R1, e1, d1⟩ := one_create T (by omega) (K := [queB qN, msgB qN 0, msgB qN 1]) (by simp) (by simp)
      obtain ⟨C2, e2, d2⟩ := one_sent (by omega) hb d1 (by simp) (by simp) (by simp) (by omega)
      have HA := fun q p => cCreate q p QInv.nil (by decide) (by decide) e1
      have HB := fun q p => cSend q p d1.inv (by decide) e2
      have D2 : Hid (Deed [] [queB qN, msgB qN 0, msgB qN 1] (msL (fD body 0) 0 1 ++ [uR qN ⟨1, T, ⟨#[]⟩⟩]) (2 + 2 * 0) C2 (findR C1 R1 qN)) := Lib.hid (by rw [fD_one]; exact d2)
      clear e1 e2 d1 d2
      generalize findR C1 R1 qN = R2 at *
      rw [show qN = ⟨#[113]⟩ from rfl] at HA HB
      have hO := (hO.nil 80 2).rowIm (.here _ _)
      ((try clear hf); have hf := fa_ hO)
      go_enter Tryz.func10, Tryz.ntmps10
      go_wp2_with (first | (go_at_call 53; (with_reducible apply Calls.mono (HW _ (Own.immOf (φ := LibOk) hO pk_)); rintro e8 w8 ⟨⟨wa, rfl⟩, hx8⟩; replace hO := hO.ext hx8; clear hx8; dsimp only; ((try clear hf); have hf := fa_ hO))) | (go_at_call 17; (with_reducible apply Does.use hO (HN); (focus exact tk_); clear hO; intro x9 w9 hO; dsimp only at hO ⊢; simp only [CA] at hO; ((try clear hf); have hf := fa_ hO); rename Nat => p)) | (go_at_call 16; (with_reducible apply Does.use hO (HVN _); (focus exact tk_); clear hO; intro x9 w9 hO; dsimp only at hO ⊢; simp only [CA] at hO; ((try clear hf); have hf := fa_ hO); rename Nat => q)) | (go_at_call 54; (with_reducible apply Does.use hO (HA _ _); (focus exact tk_); clear hO; intro x9 w9 hO; dsimp only at hO ⊢; simp only [CA] at hO; ((try clear hf); have hf := fa_ hO))) | (go_at_call 55; (with_reducible apply Does.use hO (HB _ _); (focus exact tk_); clear hO; intro x9 w9 hO; dsimp only at hO ⊢; simp only [CA] at hO; ((try clear hf); have hf := fa_ hO))) | ((refine sy_ hO ?_); clear hO; intro w9 hO; (try dsimp only [List.set] at hO); ((try clear hf); have hf := fa_ hO)))
      all_goals try (exfalso; omega; done)
      have hO9 := hO
      clear hO hf HN HVN HA HB HW
      go_loopw [13, 15] (fun v13 v15 wr => ∃ (i : Nat) (C : List Ch) (R : List Sp), v13 = .int .i64 ((i + 1 : Nat) : Int) ∧ i ≤ T ∧ Hid (Deed [] [queB qN, msgB qN 0, msgB qN 1] (msL (fD body i) 0 1 ++ [uR qN ⟨1, T, ⟨#[]⟩⟩]) (2 + 2 * i) C R) ∧
        Own (fun _ => False) w wr [ViewR q p 0 C R, VerR p 0 (newV []), .imm LibOk]) (fun v _ _ => T + 1 - (intOf v).toNat)
      case atStart => exact ⟨0, C2, R2, rfl, by omega, D2, hO9.cut sb_⟩
      case round =>
        clear hO9 D2
        obtain ⟨i, C, R, rfl, hi, HD, hO⟩ := hrel
        rename World => w1
        ((try clear hf); have hf := fa_ hO)
        by_cases hlt : i < T
        · obtain ⟨C', R', e, d⟩ := dead_round (i := i) (T := T) (u := ⟨1, T, ⟨#[]⟩⟩) (ZQ.one _) (u_ok (by omega) (by omega)) rfl hT9 hlt hb HD.out (by simp) (by simp) (by omega)
          have HC := fun q p => cRecv q p HD.out.inv (by decide) e
          have D3 : Hid (Deed [] [queB qN, msgB qN 0, msgB qN 1] (msL (fD body (i + 1)) 0 1 ++ [uR qN ⟨1, T, ⟨#[]⟩⟩]) (2 + 2 * (i + 1)) C' R') := Lib.hid (d.more (by omega))
          clear e d HD
          rw [show qN = ⟨#[113]⟩ from rfl] at HC
          dsimp only at HC
          generalize hx : i + 1 = x at *
          have hx1 : x ≤ T := by omega
          have hx2 : i < x := by omega
          have hx3 : 1 ≤ x := by omega
          clear hx
          go_wp2_with (first | (go_at_call 56; (with_reducible apply Does.use hO (HC _ _); (focus exact tk_); clear hO; intro x9 w9 hO; dsimp only at hO ⊢; simp only [CA] at hO; ((try clear hf); have hf := fa_ hO))) | ((refine sy_ hO ?_); clear hO; intro w9 hO; (try dsimp only [List.set] at hO); ((try clear hf); have hf := fa_ hO)))
          all_goals try (exfalso; omega; done)
          exact ⟨⟨x, C', R', by go_num, by omega, D3, hO.cut sb_⟩, by simp [intOf]; omega⟩
        · obtain rfl : i = T := by omega
          obtain ⟨Ra, Ca, Cb, Rb, ml, Rc, e1, i1, e2, i2, e3, i3, e4, hml⟩ := dead_end0 ⟨hT0, hT9⟩ hb HD.out (by simp) (by simp) (by simp) (by simp) (by omega)
          have HC := fun q p => cNone q p HD.out.inv (by decide) e1
          have HDD := fun q p => cSend q p i1 (by decide) e2
          have HE := fun q p => cRecv q p i2 (by decide) e3
          have HM := fun q p => cMsgs q p i3 (by decide) e4
          clear e1 e2 e3 e4 i1 i2 i3 HD
          rw [show qN = ⟨#[113]⟩ from rfl] at HC HDD HE HM
          rw [show nextB = ⟨#[110, 101, 120, 116]⟩ from rfl] at HDD HE
          dsimp only at HE
          rw [hml] at HM
          go_wp2_with (first | (go_at_call 56; (with_reducible apply Does.use hO (HC _ _); (focus exact tk_); clear hO; intro x9 w9 hO; dsimp only at hO ⊢; simp only [CA] at hO; ((try clear hf); have hf := fa_ hO))) | (go_at_call 55; (with_reducible apply Does.use hO (HDD _ _); (focus exact tk_); clear hO; intro x9 w9 hO; dsimp only at hO ⊢; simp only [CA] at hO; ((try clear hf); have hf := fa_ hO))) | (go_at_call 56; (with_reducible apply Does.use hO (HE _ _); (focus exact tk_); clear hO; intro x9 w9 hO; dsimp only at hO ⊢; simp only [CA] at hO; ((try clear hf); have hf := fa_ hO))) | (go_at_call 57; (with_reducible apply Does.use hO (HM _ _); (focus exact tk_); clear hO; intro x9 w9 hO; dsimp only at hO ⊢; simp only [CA] at hO; ((try clear hf); have hf := fa_ hO); (obtain ⟨ya, yc⟩ := x9; dsimp only at hO ⊢; ((try clear hf); have hf := fa_ hO)))) | (go_at_call 49; (with_reducible apply Calls.mono (num12 _); rintro e8 w8 ⟨rfl, rfl⟩; dsimp only)) | ((refine sy_ hO ?_); clear hO; intro w9 hO; (try dsimp only [List.set] at hO); ((try clear hf); have hf := fa_ hO)))
          all_goals first | (exfalso; omega; done) | (go_ret; exact ⟨rfl, hO.toExt⟩)
    | true =>
      obtain ⟨C0, R0, C1, R1, C2, e0, i0, e1, i1, e2, d2⟩ := dead_start1 (T := T) (K := [queB qN, queB dN, msgB qN 0, msgB qN 1, msgB dN 0]) ⟨hT0, hT9⟩ hb (by simp) (by simp) (by simp) (by simp)
      have HZ := fun q p => cCreate q p QInv.nil (by decide) (by decide) e0
      have HA := fun q p => cCreate q p i0 (by decide) (by decide) e1
      have HB := fun q p => cSend q p i1 (by decide) e2
      have D2 : Hid (Deed [] [queB qN, queB dN, msgB qN 0, msgB qN 1, msgB dN 0] (msL (fD body 0) 0 1 ++ [uR dN ⟨0, 1, ⟨#[]⟩⟩, uR qN ⟨1, T, dN⟩]) (4 + 2 * 0) C2 (findR C1 R1 qN)) := Lib.hid d2
      clear e0 i0 e1 i1 e2 d2
      generalize findR C1 R1 qN = R2 at *
      rw [show qN = ⟨#[113]⟩ from rfl, show dN = ⟨#[100]⟩ from rfl] at HA
      rw [show dN = ⟨#[100]⟩ from rfl] at HZ
      rw [show qN = ⟨#[113]⟩ from rfl] at HB
      have hO := (hO.nil 80 2).rowIm (.here _ _)
      ((try clear hf); have hf := fa_ hO)
      go_enter Tryz.func10, Tryz.ntmps10
      go_wp2_with (first | (go_at_call 53; (with_reducible apply Calls.mono (HW _ (Own.immOf (φ := LibOk) hO pk_)); rintro e8 w8 ⟨⟨wa, rfl⟩, hx8⟩; replace hO := hO.ext hx8; clear hx8; dsimp only; ((try clear hf); have hf := fa_ hO))) | (go_at_call 17; (with_reducible apply Does.use hO (HN); (focus exact tk_); clear hO; intro x9 w9 hO; dsimp only at hO ⊢; simp only [CA] at hO; ((try clear hf); have hf := fa_ hO); rename Nat => p)) | (go_at_call 16; (with_reducible apply Does.use hO (HVN _); (focus exact tk_); clear hO; intro x9 w9 hO; dsimp only at hO ⊢; simp only [CA] at hO; ((try clear hf); have hf := fa_ hO); rename Nat => q)) | (go_at_call 54; (with_reducible apply Does.use hO (HZ _ _); (focus exact tk_); clear hO; intro x9 w9 hO; dsimp only at hO ⊢; simp only [CA] at hO; ((try clear hf); have hf := fa_ hO))) | (go_at_call 54; (with_reducible apply Does.use hO (HA _ _); (focus exact tk_); clear hO; intro x9 w9 hO; dsimp only at hO ⊢; simp only [CA] at hO; ((try clear hf); have hf := fa_ hO))) | (go_at_call 55; (with_reducible apply Does.use hO (HB _ _); (focus exact tk_); clear hO; intro x9 w9 hO; dsimp only at hO ⊢; simp only [CA] at hO; ((try clear hf); have hf := fa_ hO))) | ((refine sy_ hO ?_); clear hO; intro w9 hO; (try dsimp only [List.set] at hO); ((try clear hf); have hf := fa_ hO)))
      all_goals try (exfalso; omega; done)
      have hO9 := hO
      clear hO hf HN HVN HA HB HW HZ
      go_loopw [13, 15] (fun v13 v15 wr => ∃ (i : Nat) (C : List Ch) (R : List Sp), v13 = .int .i64 ((i + 1 : Nat) : Int) ∧ i ≤ T ∧ Hid (Deed [] [queB qN, queB dN, msgB qN 0, msgB qN 1, msgB dN 0] (msL (fD body i) 0 1 ++ [uR dN ⟨0, 1, ⟨#[]⟩⟩, uR qN ⟨1, T, dN⟩]) (4 + 2 * i) C R) ∧
        Own (fun _ => False) w wr [ViewR q p 0 C R, VerR p 0 (newV []), .imm LibOk]) (fun v _ _ => T + 1 - (intOf v).toNat)
      case atStart => exact ⟨0, C2, R2, rfl, by omega, D2, hO9.cut sb_⟩
      case round =>
        clear hO9 D2
        obtain ⟨i, C, R, rfl, hi, HD, hO⟩ := hrel
        rename World => w1
        ((try clear hf); have hf := fa_ hO)
        by_cases hlt : i < T
        · obtain ⟨C', R', e, d⟩ := dead_round (i := i) (T := T) (ZQ.two _ _) ⟨by unfold Qu.bad; dsimp only; omega, .inr dN_ok⟩ rfl hT9 hlt hb HD.out (by simp) (by simp) (by omega)
          have HC := fun q p => cRecv q p HD.out.inv (by decide) e
          have D3 : Hid (Deed [] [queB qN, queB dN, msgB qN 0, msgB qN 1, msgB dN 0] (msL (fD body (i + 1)) 0 1 ++ [uR dN ⟨0, 1, ⟨#[]⟩⟩, uR qN ⟨1, T, dN⟩]) (4 + 2 * (i + 1)) C' R') := Lib.hid (d.more (by omega))
          clear e d HD
          rw [show qN = ⟨#[113]⟩ from rfl] at HC
          dsimp only at HC
          generalize hx : i + 1 = x at *
          have hx1 : x ≤ T := by omega
          have hx2 : i < x := by omega
          have hx3 : 1 ≤ x := by omega
          clear hx
          go_wp2_with (first | (go_at_call 56; (with_reducible apply Does.use hO (HC _ _); (focus exact tk_); clear hO; intro x9 w9 hO; dsimp only at hO ⊢; simp only [CA] at hO; ((try clear hf); have hf := fa_ hO))) | ((refine sy_ hO ?_); clear hO; intro w9 hO; (try dsimp only [List.set] at hO); ((try clear hf); have hf := fa_ hO)))
          all_goals try (exfalso; omega; done)
          exact ⟨⟨x, C', R', by go_num, by omega, D3, hO.cut sb_⟩, by simp [intOf]; omega⟩
        · obtain rfl : i = T := by omega
          obtain ⟨Ra, Ca, Cb, Rb, ml, Rc, Rd, e1, i1, e2, i2, e3, i3, e4, hml, i4, e5⟩ := dead_end1 ⟨hT0, hT9⟩ hb HD.out (by simp) (by simp) (by simp) (by simp) (by simp) (by simp) (by omega)
          have HC := fun q p => cNone q p HD.out.inv (by decide) e1
          have HDD := fun q p => cSend q p i1 (by decide) e2
          have HE := fun q p => cRecv q p i2 (by decide) e3
          have HM := fun q p => cMsgs q p i3 (by decide) e4
          have HMD := fun q p => cMsgs1 q p i4 (by decide) e5
          clear e1 e2 e3 e4 e5 i1 i2 i3 i4 HD
          rw [show qN = ⟨#[113]⟩ from rfl] at HC HDD HE HM
          rw [show dN = ⟨#[100]⟩ from rfl] at HMD
          rw [show nextB = ⟨#[110, 101, 120, 116]⟩ from rfl] at HDD HE
          dsimp only at HE
          rw [hml] at HM
          go_wp2_with (first | (go_at_call 56; (with_reducible apply Does.use hO (HC _ _); (focus exact tk_); clear hO; intro x9 w9 hO; dsimp only at hO ⊢; simp only [CA] at hO; ((try clear hf); have hf := fa_ hO))) | (go_at_call 55; (with_reducible apply Does.use hO (HDD _ _); (focus exact tk_); clear hO; intro x9 w9 hO; dsimp only at hO ⊢; simp only [CA] at hO; ((try clear hf); have hf := fa_ hO))) | (go_at_call 56; (with_reducible apply Does.use hO (HE _ _); (focus exact tk_); clear hO; intro x9 w9 hO; dsimp only at hO ⊢; simp only [CA] at hO; ((try clear hf); have hf := fa_ hO))) | (go_at_call 57; (with_reducible apply Does.use hO (HM _ _); (focus exact tk_); clear hO; intro x9 w9 hO; dsimp only at hO ⊢; simp only [CA] at hO; ((try clear hf); have hf := fa_ hO); (obtain ⟨ya, yc⟩ := x9; dsimp only at hO ⊢; ((try clear hf); have hf := fa_ hO)))) | (go_at_call 57; (with_reducible apply Does.use hO (HMD _ _); (focus exact tk_); clear hO; intro x9 w9 hO; dsimp only at hO ⊢; simp only [CA] at hO; ((try clear hf); have hf := fa_ hO); (obtain ⟨za, zc⟩ := x9; dsimp only at hO ⊢; obtain ⟨zb, rfl, _⟩ := hO.rowAt (e := 104) (size := 4) (a := za) (n := 1) (cap := zc) (xs := [.int .i64 0, .int .i64 0, .int .i64 0, .string body]) pk_ (by omega); have hz := rowV (hO.factOf (r := Row2 104 4 (some ⟨zb, 0, none⟩) 1 zc [.int .i64 0, .int .i64 0, .int .i64 0, .string body]) pk_); have z0 := hz.get (i := 0) rfl; have z1 := hz.get (i := 1) rfl; have z2 := hz.get (i := 2) rfl; have z3 := hz.get (i := 3) rfl; clear hz; ((try clear hf); have hf := fa_ hO)))) | (go_at_call 49; (with_reducible apply Calls.mono (num12 _); rintro e8 w8 ⟨rfl, rfl⟩; dsimp only)) | ((refine sy_ hO ?_); clear hO; intro w9 hO; (try dsimp only [List.set] at hO); ((try clear hf); have hf := fa_ hO)))
          all_goals first | (exfalso; omega; done) | (go_ret; exact ⟨rfl, hO.toExt⟩)
  · ((try clear hf); have hf := fa_ hO)
    go_enter Tryz.func10, Tryz.ntmps10
    go_wp2_with (first | (go_at_call 53; (with_reducible apply Calls.mono (HW _ (Own.immOf (φ := LibOk) hO pk_)); rintro e8 w8 ⟨⟨wa, rfl⟩, hx8⟩; replace hO := hO.ext hx8; clear hx8; dsimp only; ((try clear hf); have hf := fa_ hO))) | ((refine sy_ hO ?_); clear hO; intro w9 hO; (try dsimp only [List.set] at hO); ((try clear hf); have hf := fa_ hO)))
    all_goals first | (exfalso; omega; done) | (go_ret; exact ⟨rfl, hO.toExt⟩)
end Go.Proofs.YtmknhibaoopjjaaGreatDoor
