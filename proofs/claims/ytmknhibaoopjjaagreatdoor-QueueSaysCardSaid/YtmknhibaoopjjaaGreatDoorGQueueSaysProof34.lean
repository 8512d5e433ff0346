/- Texts Q22, Q23, Q24, Q25 of this claim, laid together. -/
import Derived.Test.YtmknhibaoopjjaaGreatDoorGQueueSaysProof33
import Derived.Test.YtmknhibaoopjjaaGreatDoorGQueueSaysProof3
set_option linter.unusedVariables false
set_option linter.unusedSimpArgs false
namespace Go.Proofs.YtmknhibaoopjjaaGreatDoor
open Go.RowKit
theorem LoOk.meas {name lo : ByteArray} {k : Nat} (h : LoOk name k lo) : measF name lo = 1000001 - k := by
  rcases h with ⟨rfl, rfl⟩ | ⟨n, hn, rfl, rfl⟩
  · unfold measF
    rw [dif_neg]
    rintro ⟨n, _, h⟩
    have := congrArg ByteArray.size h
    rw [ByteArray.size_append, msgB_size] at this
    have e : (loB name).size = name.size + 3 := by
      unfold loB
      simp only [ByteArray.size_append]
      show 1 + 1 + name.size + 1 = _
      omega
    rw [e, show nul.size = 1 from rfl] at this
    omega
  · exact FrmOk.meas (.inr ⟨n, hn, rfl, rfl⟩)
def cellS (w : World) (g : Nat) : ByteArray := strOf ((w.cell? ⟨g, 0, none⟩).getD .nilIface)
theorem cellS_eq {w : World} {g : Nat} {s t : ByteArray} {e : TypeId} (h : (Var g [.string s, .string t] e).facts w) : cellS w g = s := by
  unfold cellS
  rw [show w.cell? ⟨g, 0, none⟩ = some (.string s) from Var.at (t := e) h 0 _ rfl]
  rfl
theorem no_sp {a : ByteArray} (h : a.size ≠ 0) : ¬ a = ⟨#[]⟩ ∧ ¬ a.toList = [] ∧ (a.toList == []) = false ∧ a.toList.isEmpty = false := by
  have hq : a.toList.length = a.size := by rw [ByteArray.toList_eq]; rfl
  cases hl : a.toList with
  | nil => exact absurd (by rw [← hq, hl]; rfl) h
  | cons x y => exact ⟨fun e => h (by rw [e]; rfl), by simp, rfl, rfl⟩
theorem bury_cases (B : ByteArray → ByteArray × Bool) (C : List Ch) (R : List Sp) (name : ByteArray) (u : Qu) (m : Ms) :
    (putN C (goneC name m.num) ≠ 0 ∧ buryA B C R name u m = (putN C (goneC name m.num), C, R)) ∨
    (putN C (goneC name m.num) = 0 ∧ u.dead.size = 0 ∧ buryA B C R name u m = (0, putL C (goneC name m.num), R)) ∨
    (putN C (goneC name m.num) = 0 ∧ u.dead.size ≠ 0 ∧ (findN (B (queB u.dead)) (putL C (goneC name m.num)) R u.dead).2 ≠ 0 ∧ buryA B C R name u m = ((findN (B (queB u.dead)) (putL C (goneC name m.num)) R u.dead).2, putL C (goneC name m.num), findR (putL C (goneC name m.num)) R u.dead)) ∨
    (putN C (goneC name m.num) = 0 ∧ u.dead.size ≠ 0 ∧ (findN (B (queB u.dead)) (putL C (goneC name m.num)) R u.dead).2 = 0 ∧ buryA B C R name u m = ((sendA (putL C (goneC name m.num)) u.dead (findN (B (queB u.dead)) (putL C (goneC name m.num)) R u.dead).1 m.body 0).2.1, (sendA (putL C (goneC name m.num)) u.dead (findN (B (queB u.dead)) (putL C (goneC name m.num)) R u.dead).1 m.body 0).2.2, findR (putL C (goneC name m.num)) R u.dead)) := by
  unfold buryA
  by_cases h1 : putN C (goneC name m.num) = 0
  · right
    by_cases h2 : u.dead.size = 0
    · left; exact ⟨h1, h2, by rw [if_neg (fun h => h h1), if_pos h2]⟩
    · right
      by_cases h3 : (findN (B (queB u.dead)) (putL C (goneC name m.num)) R u.dead).2 = 0
      · right; exact ⟨h1, h2, h3, by rw [if_neg (fun h => h h1), if_neg h2, if_neg (fun h => h h3)]⟩
      · left; exact ⟨h1, h2, h3, by rw [if_neg (fun h => h h1), if_neg h2, if_pos h3]⟩
  · left; exact ⟨h1, by rw [if_pos h1]⟩
set_option maxHeartbeats 16000000 in
set_option maxRecDepth 100000 in
theorem rreceive_does (q since : Nat) (ra : Option Addr) (rc : Nat) (rows : List Rw) (hs : QRows rows) (C : List Ch) (R : List Sp) (name : ByteArray) (u : Qu) (now long : Int) (res : Ms × Nat × List Ch × List Sp)
    (hr : Recv rows name u now long C R (loB name) res) (hI : QInv C R) (hn : NameOk name) (hud : u.dead.size ≤ 6) (hn0 : 0 ≤ now) (hn1 : now ≤ 1000000) (hl0 : 0 ≤ long) (hl1 : long ≤ 1000000) :
    Does Tryz.prog 170 #[.pointer (some ⟨q, 0, none⟩), .string name, u.v, .int .i64 now, .int .i64 long] [RViewR q since ra rc rows C R]
      (fun _ : Unit => (.tuple #[res.1.v, .int .i64 res.2.1], [RViewR q since ra rc rows res.2.2.1 res.2.2.2])) := by
  obtain ⟨un, ut, ud⟩ := u
  have hk6 : name.size ≤ 6 := hn.2.1
  have hrl := hs.len
  unfold Qu.v
  dsimp only at hud ⊢
  have HS := Lib.hid hs
  have HNM := Lib.hid hn
  have HMS := fun w => messagesSpan_any name w (by omega)
  clear hs hn
  intro S W w L0 hO; simp only [CA] at hO
  ((try clear hf); have hf := fa_ hO)
  go_enter Tryz.func170, Tryz.ntmps170
  go_wp2_with (first | (go_at_call 177; (with_reducible apply Calls.mono (HMS _); rintro e8 w8 ⟨rfl, hx8⟩; replace hO := hO.ext hx8; clear hx8; dsimp only; ((try clear hf); have hf := fa_ hO))) | ((refine sy_ hO ?_); clear hO; intro w9 hO; (try dsimp only [List.set] at hO); ((try clear hf); have hf := fa_ hO)))
  obtain ⟨g, hg9⟩ := (hO.pick (r := Var _ [.string (loB name), .string (hiB name)] 49) pk_).named
  rw [← hg9]; rw [← hg9] at hO; clear hg9
  obtain ⟨gq, hg9⟩ := (hO.pick (r := Var _ [.int .i64 un, .int .i64 ut, .string ud] 187) pk_).named
  rw [← hg9]; rw [← hg9] at hO; clear hg9
  obtain ⟨gm, hg9⟩ := (hO.pick (r := Var _ [.int .i64 0, .int .i64 0, .int .i64 0, .string ⟨#[]⟩] 104) pk_).named
  rw [← hg9]; rw [← hg9] at hO; clear hg9
  have hO9 := hO
  clear hO hf HMS
  have HR0 := Lib.hid hr
  have HI0 := Lib.hid hI
  clear hr hI
  go_loopw [14] (fun v14 wr => ∃ (C' : List Ch) (R' : List Sp) (lo : ByteArray), Hid (QInv C' R') ∧ Hid (∃ k, LoOk name k lo ∧ Recv rows name ⟨un, ut, ud⟩ now long C' R' lo res) ∧ Own S W wr ([Var g [.string lo, .string (hiB name)] 49, Var gq [.int .i64 un, .int .i64 ut, .string ud] 187, Var gm [.int .i64 0, .int .i64 0, .int .i64 0, .string ⟨#[]⟩] 104, RViewR q since ra rc rows C' R'] ++ L0)) (fun v14 wr => measF name (cellS wr g))
  case atStart => exact ⟨C, R, loB name, HI0, Lib.hid ⟨0, .inl ⟨rfl, rfl⟩, HR0.out⟩, by (try simp only [CA]); exact hO9.cut sb_⟩
  case round =>
    clear hO9 HR0 HI0
    obtain ⟨C', R', lo, HI, HR, hO⟩ := hrel
    rename World => w1
    simp only [List.cons_append, List.nil_append] at hO
    have HC := Lib.hid (congrArg (measF name) (cellS_eq (hO.factOf (r := Var g [.string lo, .string (hiB name)] 49) pk_)))
    have hc12 := HI.out.c12
    have hr40 := HI.out.r40
    obtain ⟨k, hlo, hr⟩ := HR.out
    clear HR
    ((try clear hf); have hf := fa_ hO)
    have hks := seen_keys HS.out HI.out lo (hiB name)
    cases hr with
    | @bad _ _ _ _ L hL h1 e =>
      have HSC := rscan_does q since ra rc rows C' R' lo (hiB name) 1 _ hL (by omega) hr40 (by omega) (hL ▸ hks)
      have e1 : scnO L R' lo (hiB name) 1 = [] := by unfold scnO; rw [if_neg h1]
      rw [e1] at HSC
      dsimp only [List.length_nil, List.flatMap_nil] at HSC
      generalize scnB _ R' lo (hiB name) 1 = R2 at *
      generalize scnN _ R' lo (hiB name) 1 = N at *
      have HE := Lib.hid e
      clear e e1 hL hks hlo HC
      go_wp2_with (first | (go_at_call 24; (with_reducible apply Does.use hO (HSC); (focus exact tk_); clear hO; intro x9 w9 hO; dsimp only at hO ⊢; simp only [CA] at hO; ((try clear hf); have hf := fa_ hO); (obtain ⟨za, zc⟩ := x9; dsimp only at hO ⊢; ((try clear hf); have hf := fa_ hO)))) | ((refine sy_ hO ?_); clear hO; intro w9 hO; (try dsimp only [List.set] at hO); ((try clear hf); have hf := fa_ hO)))
      all_goals try (exfalso; omega; done)
      ((refine bodyPost_run rfl fun K hK => ?_; simp [results, Tryz.results170, go_sem, hf]; refine hK _ ⟨(), ?_, ?_⟩); (focus (rw [HE.out]; rfl)); (focus (rw [HE.out]; dsimp only; (try simp only [CA]); exact hO.cut sb_)))
    | empty hL h1 e =>
      have HSC := rscan_does q since ra rc rows C' R' lo (hiB name) 1 _ hL (by omega) hr40 (by omega) (hL ▸ hks)
      have e1 : scnO [] R' lo (hiB name) 1 = [] := by unfold scnO; rw [if_pos h1]; rfl
      rw [e1, h1] at HSC
      dsimp only [List.length_nil, List.flatMap_nil] at HSC
      generalize scnB _ R' lo (hiB name) 1 = R2 at *
      have HE := Lib.hid e
      clear e e1 h1 hL hks hlo HC
      go_wp2_with (first | (go_at_call 24; (with_reducible apply Does.use hO (HSC); (focus exact tk_); clear hO; intro x9 w9 hO; dsimp only at hO ⊢; simp only [CA] at hO; ((try clear hf); have hf := fa_ hO); (obtain ⟨za, zc⟩ := x9; dsimp only at hO ⊢; ((try clear hf); have hf := fa_ hO)))) | ((refine sy_ hO ?_); clear hO; intro w9 hO; (try dsimp only [List.set] at hO); ((try clear hf); have hf := fa_ hO)))
      all_goals try (exfalso; omega; done)
      ((refine bodyPost_run rfl fun K hK => ?_; simp [results, Tryz.results170, go_sem, hf]; refine hK _ ⟨(), ?_, ?_⟩); (focus (rw [HE.out]; rfl)); (focus (rw [HE.out]; dsimp only; (try simp only [CA]); exact hO.cut sb_)))
    | @text _ _ _ _ n v t hL h1 hn2 hv h2 e =>
      have HSC := rscan_does q since ra rc rows C' R' lo (hiB name) 1 _ hL (by omega) hr40 (by omega) (hL ▸ hks)
      have e1 : scnO (⟨msgB name n, v⟩ :: t) R' lo (hiB name) 1 = [⟨msgB name n, v⟩] := by unfold scnO; rw [if_pos h1]; rfl
      rw [e1, h1] at HSC
      dsimp only [List.length_cons, List.length_nil, List.flatMap_cons, List.flatMap_nil] at HSC
      have HNO : ∀ w, Calls Tryz.prog 179 #[.string (msgB name n)] w fun e w' => e = .returned (.int .i64 (n : Int)) ∧ Ext w w' := fun w => (rnumberOf_any name n w (by omega) hn2).mono fun e w' h => ⟨h.1, h.2 ▸ Ext.refl _⟩
      have HMP := fun w => rmpar_any (n : Int) v (by omega) w
      have hks2 : (msgB name n).size ≤ 300 := by rw [msgB_size]; omega
      have hz : (msOf n v).1 = Ms.z := by
        rcases msOf_cases n v with ⟨m, hm, _⟩ | ⟨hm, _⟩
        · rw [hm] at h2; exact absurd rfl h2
        · rw [hm]
      rw [hz] at HMP
      unfold Ms.v at HMP
      unfold Ms.z at HMP
      dsimp only at HMP
      generalize (msOf n v).2 = N at *
      generalize scnB _ R' lo (hiB name) 1 = R2 at *
      have HE := Lib.hid e
      clear e e1 h1 hL hks hlo HC hz
      generalize hkk : msgB name n = ky at *
      clear hkk
      go_upto_region 7 with (first | (go_at_call 24; (with_reducible apply Does.use hO (HSC); (focus exact tk_); clear hO; intro x9 w9 hO; dsimp only at hO ⊢; simp only [CA] at hO; ((try clear hf); have hf := fa_ hO); (obtain ⟨za, zc⟩ := x9; dsimp only at hO ⊢; ((try clear hf); have hf := fa_ hO)))) | ((refine sy_ hO ?_); clear hO; intro w9 hO; (try dsimp only [List.set] at hO); ((try clear hf); have hf := fa_ hO)))
      obtain ⟨zb, zo, rfl⟩ := rw_some (a := za) (l := [⟨ky, v⟩]) (i := 0) (hO.immOf (φ := fun w => ValsAt w za ([⟨ky, v⟩].flatMap rwC)) pk_) (by simp)
      have hO := (hO.pick (r := .imm fun w => ValsAt w (some ⟨zb, zo, none⟩) ([⟨ky, v⟩].flatMap rwC)) pk_).imp (ψ := fun w => w.cell? ⟨zb, zo, none⟩ = some (.string ky) ∧ w.cell? ⟨zb, zo + 1, none⟩ = some (.string v)) fun w h => by
        have := rw_cells (l := [⟨ky, v⟩]) (i := 0) h (by simp)
        simpa using this
      ((try clear hf); have hf := fa_ hO)
      refine wp_region_planI (fun w8 => Own S W w8 (.imm (fun w => w.cell? ⟨zb, zo, none⟩ = some (.string ky) ∧ w.cell? ⟨zb, zo + 1, none⟩ = some (.string v)) :: L0)) (fun _ _ h hx => h.ext hx) (hO.cut sb_) [0, 1, 2, 5, 6, 7, 10, 11, 12, 15, 1003, 1008] (.pure 0 <| .pure 1 <| .pure 2 <| .see 3 <| .pure 5 <| .pure 6 <| .pure 7 <| .see 8 <| .fork 4 (.fork 9 (.pure 10 <| .pure 11 <| .pure 12 <| .one 13 <| .one 14 <| .pure 15 .done) 13 (.one 9 <| .pure 10 <| .pure 11 <| .pure 12 <| .one 14 <| .pure 15 .done)) 13 (.one 4 <| .one 9 <| .pure 10 <| .pure 11 <| .pure 12 <| .one 14 <| .pure 15 .done)) (by kernel_rfl) (by kernel_rfl) (fun _ _ d _ _ h => by cases d <;> exact h) ?_
      intro w9 hx9
      replace hO := hO.ext hx9
      clear hx9
      ((try clear hf); have hf := fa_ hO)
      (repeat (first | (apply inPlan_p _ rfl rfl rfl; focus (intro w8 K8 hK8; (repeat (first | go_skip | go_guarded | go_step)); exact hK8)) | (apply inPlan_s _ rfl rfl rfl; focus (intro w8 hI8 K8 hK8; obtain ⟨d0, d1⟩ := Own.immOf (φ := fun w => w.cell? ⟨zb, zo, none⟩ = some (.string ky) ∧ w.cell? ⟨zb, zo + 1, none⟩ = some (.string v)) hI8 pk_; (repeat (first | go_skip | go_guarded | go_step)); exact hK8))))
      refine inPlan_forkI rfl rfl ?_ ?_
      (intro K8 hK8; (repeat (first | go_skip | go_guarded | go_step)); (go_at_call 179; (with_reducible apply Calls.mono (HNO _); rintro e7 w7 ⟨rfl, hx7⟩; replace hO := hO.ext hx7; clear hx7; dsimp only; ((try clear hf); have hf := fa_ hO))); (repeat go_step); refine hK8 _ _ (hO.cut sb_) ?_; clear hK8 K8)
      refine inPlan_forkI rfl rfl ?_ ?_
      (intro K8 hK8; (repeat (first | go_skip | go_guarded | go_step)); (go_at_call 178; (with_reducible apply Calls.mono (HMP _); rintro e7 w7 ⟨rfl, hx7⟩; replace hO := hO.ext hx7; clear hx7; dsimp only; ((try clear hf); have hf := fa_ hO))); (repeat go_step); refine hK8 _ _ (hO.cut sb_) ?_; clear hK8 K8)
      (repeat (first | (apply inPlan_p _ rfl rfl rfl; focus (intro w8 K8 hK8; (repeat (first | go_skip | go_guarded | go_step)); exact hK8)) | (apply inPlan_s _ rfl rfl rfl; focus (intro w8 hI8 K8 hK8; obtain ⟨d0, d1⟩ := Own.immOf (φ := fun w => w.cell? ⟨zb, zo, none⟩ = some (.string ky) ∧ w.cell? ⟨zb, zo + 1, none⟩ = some (.string v)) hI8 pk_; (repeat (first | go_skip | go_guarded | go_step)); exact hK8))))
      refine inPlan_oneI rfl ?_
      (intro K8 hK8; (repeat (first | go_skip | go_guarded | go_step)); refine hK8 _ _ ((hO.alloc _ _).cut sb_) ?_; clear hK8 K8; with_reducible refine inPlan_alloc_own hO ?_; clear hO; intro w9 hO; ((try clear hf); have hf := fa_ hO))
      refine inPlan_oneI rfl ?_
      (intro K8 hK8; (repeat (first | go_skip | go_guarded | go_step)); (apply k_set_own (G := K8 _ _)); (focus (exact st_ hO)); clear hO; intro w9 hO; (try dsimp only [List.set] at hO); ((try clear hf); have hf := fa_ hO); refine hK8 _ _ (hO.cut sb_) ?_; clear hK8 K8)
      (repeat (first | (apply inPlan_p _ rfl rfl rfl; focus (intro w8 K8 hK8; (repeat (first | go_skip | go_guarded | go_step)); exact hK8)) | (apply inPlan_s _ rfl rfl rfl; focus (intro w8 hI8 K8 hK8; obtain ⟨d0, d1⟩ := Own.immOf (φ := fun w => w.cell? ⟨zb, zo, none⟩ = some (.string ky) ∧ w.cell? ⟨zb, zo + 1, none⟩ = some (.string v)) hI8 pk_; (repeat (first | go_skip | go_guarded | go_step)); exact hK8))))
      refine inPlan_done ?_
      rotate_left
      (intro K8 hK8; (repeat (first | go_skip | go_guarded | go_step)); refine hK8 _ _ ((hO.alloc _ _).cut sb_) ?_; clear hK8 K8; with_reducible refine inPlan_alloc_own hO ?_; clear hO; intro w9 hO; ((try clear hf); have hf := fa_ hO))
      refine inPlan_oneI rfl ?_
      (intro K8 hK8; (repeat (first | go_skip | go_guarded | go_step)); (go_at_call 178; (with_reducible apply Calls.mono (HMP _); rintro e7 w7 ⟨rfl, hx7⟩; replace hO := hO.ext hx7; clear hx7; dsimp only; ((try clear hf); have hf := fa_ hO))); (repeat go_step); refine hK8 _ _ (hO.cut sb_) ?_; clear hK8 K8)
      (repeat (first | (apply inPlan_p _ rfl rfl rfl; focus (intro w8 K8 hK8; (repeat (first | go_skip | go_guarded | go_step)); exact hK8)) | (apply inPlan_s _ rfl rfl rfl; focus (intro w8 hI8 K8 hK8; obtain ⟨d0, d1⟩ := Own.immOf (φ := fun w => w.cell? ⟨zb, zo, none⟩ = some (.string ky) ∧ w.cell? ⟨zb, zo + 1, none⟩ = some (.string v)) hI8 pk_; (repeat (first | go_skip | go_guarded | go_step)); exact hK8))))
      refine inPlan_oneI rfl ?_
      (intro K8 hK8; (repeat (first | go_skip | go_guarded | go_step)); (apply k_set_own (G := K8 _ _)); (focus (exact st_ hO)); clear hO; intro w9 hO; (try dsimp only [List.set] at hO); ((try clear hf); have hf := fa_ hO); refine hK8 _ _ (hO.cut sb_) ?_; clear hK8 K8)
      (repeat (first | (apply inPlan_p _ rfl rfl rfl; focus (intro w8 K8 hK8; (repeat (first | go_skip | go_guarded | go_step)); exact hK8)) | (apply inPlan_s _ rfl rfl rfl; focus (intro w8 hI8 K8 hK8; obtain ⟨d0, d1⟩ := Own.immOf (φ := fun w => w.cell? ⟨zb, zo, none⟩ = some (.string ky) ∧ w.cell? ⟨zb, zo + 1, none⟩ = some (.string v)) hI8 pk_; (repeat (first | go_skip | go_guarded | go_step)); exact hK8))))
      refine inPlan_done ?_
      rotate_left
      (intro K8 hK8; (repeat (first | go_skip | go_guarded | go_step)); refine hK8 _ _ ((hO.alloc _ _).cut sb_) ?_; clear hK8 K8; with_reducible refine inPlan_alloc_own hO ?_; clear hO; intro w9 hO; ((try clear hf); have hf := fa_ hO))
      refine inPlan_oneI rfl ?_
      (intro K8 hK8; (repeat (first | go_skip | go_guarded | go_step)); (go_at_call 179; (with_reducible apply Calls.mono (HNO _); rintro e7 w7 ⟨rfl, hx7⟩; replace hO := hO.ext hx7; clear hx7; dsimp only; ((try clear hf); have hf := fa_ hO))); (repeat go_step); refine hK8 _ _ (hO.cut sb_) ?_; clear hK8 K8)
      refine inPlan_oneI rfl ?_
      (intro K8 hK8; (repeat (first | go_skip | go_guarded | go_step)); (go_at_call 178; (with_reducible apply Calls.mono (HMP _); rintro e7 w7 ⟨rfl, hx7⟩; replace hO := hO.ext hx7; clear hx7; dsimp only; ((try clear hf); have hf := fa_ hO))); (repeat go_step); refine hK8 _ _ (hO.cut sb_) ?_; clear hK8 K8)
      (repeat (first | (apply inPlan_p _ rfl rfl rfl; focus (intro w8 K8 hK8; (repeat (first | go_skip | go_guarded | go_step)); exact hK8)) | (apply inPlan_s _ rfl rfl rfl; focus (intro w8 hI8 K8 hK8; obtain ⟨d0, d1⟩ := Own.immOf (φ := fun w => w.cell? ⟨zb, zo, none⟩ = some (.string ky) ∧ w.cell? ⟨zb, zo + 1, none⟩ = some (.string v)) hI8 pk_; (repeat (first | go_skip | go_guarded | go_step)); exact hK8))))
      refine inPlan_oneI rfl ?_
      (intro K8 hK8; (repeat (first | go_skip | go_guarded | go_step)); (apply k_set_own (G := K8 _ _)); (focus (exact st_ hO)); clear hO; intro w9 hO; (try dsimp only [List.set] at hO); ((try clear hf); have hf := fa_ hO); refine hK8 _ _ (hO.cut sb_) ?_; clear hK8 K8)
      (repeat (first | (apply inPlan_p _ rfl rfl rfl; focus (intro w8 K8 hK8; (repeat (first | go_skip | go_guarded | go_step)); exact hK8)) | (apply inPlan_s _ rfl rfl rfl; focus (intro w8 hI8 K8 hK8; obtain ⟨d0, d1⟩ := Own.immOf (φ := fun w => w.cell? ⟨zb, zo, none⟩ = some (.string ky) ∧ w.cell? ⟨zb, zo + 1, none⟩ = some (.string v)) hI8 pk_; (repeat (first | go_skip | go_guarded | go_step)); exact hK8))))
      refine inPlan_done ?_
      all_goals
        go_wp2_with (first | ((refine sy_ hO ?_); clear hO; intro w9 hO; (try dsimp only [List.set] at hO); ((try clear hf); have hf := fa_ hO)))
        all_goals try (exfalso; omega; done)
        ((refine bodyPost_run rfl fun K hK => ?_; simp [results, Tryz.results170, go_sem, hf]; refine hK _ ⟨(), ?_, ?_⟩); (focus (rw [HE.out]; rfl)); (focus (rw [HE.out]; dsimp only; (try simp only [CA]); exact hO.cut sb_)))
    | @skip _ _ _ _ n v t hL h1 hn2 hv h2 h3 h =>
      have HSC := rscan_does q since ra rc rows C' R' lo (hiB name) 1 _ hL (by omega) hr40 (by omega) (hL ▸ hks)
      have e1 : scnO (⟨msgB name n, v⟩ :: t) R' lo (hiB name) 1 = [⟨msgB name n, v⟩] := by unfold scnO; rw [if_pos h1]; rfl
      rw [e1, h1] at HSC
      dsimp only [List.length_cons, List.length_nil, List.flatMap_cons, List.flatMap_nil] at HSC
      have HNO : ∀ w, Calls Tryz.prog 179 #[.string (msgB name n)] w fun e w' => e = .returned (.int .i64 (n : Int)) ∧ Ext w w' := fun w => (rnumberOf_any name n w (by omega) hn2).mono fun e w' h => ⟨h.1, h.2 ▸ Ext.refl _⟩
      have HMP := fun w => rmpar_any (n : Int) v (by omega) w
      have hks2 : (msgB name n).size ≤ 300 := by rw [msgB_size]; omega
      have hkn : k ≤ n := hlo.num hn2 (List.mem_filter.1 (show (⟨msgB name n, v⟩ : Rw) ∈ inR lo (hiB name) (C'.foldl appR rows) by rw [hL]; exact List.mem_cons_self ..)).2
      have hlo2 : LoOk name (n + 1) (msgB name n ++ nul) := .inr ⟨n, hn2, rfl, rfl⟩
      have HL2 := Lib.hid hlo2
      have HM2 := Lib.hid (show measF name (msgB name n ++ nul) < measF name lo by rw [hlo.meas, hlo2.meas]; omega)
      clear hlo2
      have hmm : (msOf n v).1.num = n ∧ ¬ (msOf n v).1.bad := by
        rcases msOf_cases n v with ⟨m, hm, hmn, hmb, _⟩ | ⟨hm, _⟩
        · rw [hm]; exact ⟨hmn, hmb⟩
        · rw [hm] at h2; cases h2
      rw [h2] at HMP
      generalize (msOf n v).1 = mm at *
      obtain ⟨mn, mt, mu, mb⟩ := mm
      obtain ⟨hmn, hmb⟩ := hmm
      dsimp only at hmn
      subst hmn
      unfold Ms.v at HMP
      dsimp only at *
      have hmm : ¬ Ms.bad ⟨n, mt, mu, mb⟩ := hmb
      unfold Ms.bad at hmb
      dsimp only at hmb
      have hm1 : 0 ≤ mt ∧ mt ≤ 9 ∧ 0 ≤ mu ∧ mu ≤ 2000000 := by omega
      obtain ⟨hm1, hm2, hm3, hm4⟩ := hm1
      clear hmb
      have HI2 := Lib.hid (HI.out.scan (⟨msgB name n, v⟩ :: t) lo (hiB name) 1)
      have HR2 := Lib.hid h
      generalize scnB _ R' lo (hiB name) 1 = R2 at *
      clear h h1 h2 hL hks hlo hmm e1
      generalize hkk : msgB name n = ky at *
      clear hkk
      go_upto_region 7 with (first | (go_at_call 24; (with_reducible apply Does.use hO (HSC); (focus exact tk_); clear hO; intro x9 w9 hO; dsimp only at hO ⊢; simp only [CA] at hO; ((try clear hf); have hf := fa_ hO); (obtain ⟨za, zc⟩ := x9; dsimp only at hO ⊢; ((try clear hf); have hf := fa_ hO)))) | ((refine sy_ hO ?_); clear hO; intro w9 hO; (try dsimp only [List.set] at hO); ((try clear hf); have hf := fa_ hO)))
      obtain ⟨zb, zo, rfl⟩ := rw_some (a := za) (l := [⟨ky, v⟩]) (i := 0) (hO.immOf (φ := fun w => ValsAt w za ([⟨ky, v⟩].flatMap rwC)) pk_) (by simp)
      have hO := (hO.pick (r := .imm fun w => ValsAt w (some ⟨zb, zo, none⟩) ([⟨ky, v⟩].flatMap rwC)) pk_).imp (ψ := fun w => w.cell? ⟨zb, zo, none⟩ = some (.string ky) ∧ w.cell? ⟨zb, zo + 1, none⟩ = some (.string v)) fun w h => by
        have := rw_cells (l := [⟨ky, v⟩]) (i := 0) h (by simp)
        simpa using this
      ((try clear hf); have hf := fa_ hO)
      refine wp_region_planI (fun w8 => Own S W w8 (.imm (fun w => w.cell? ⟨zb, zo, none⟩ = some (.string ky) ∧ w.cell? ⟨zb, zo + 1, none⟩ = some (.string v)) :: L0)) (fun _ _ h hx => h.ext hx) (hO.cut sb_) [0, 1, 2, 5, 6, 7, 10, 11, 12, 15, 1003, 1008] (.pure 0 <| .pure 1 <| .pure 2 <| .see 3 <| .pure 5 <| .pure 6 <| .pure 7 <| .see 8 <| .fork 4 (.fork 9 (.pure 10 <| .pure 11 <| .pure 12 <| .one 13 <| .one 14 <| .pure 15 .done) 13 (.one 9 <| .pure 10 <| .pure 11 <| .pure 12 <| .one 14 <| .pure 15 .done)) 13 (.one 4 <| .one 9 <| .pure 10 <| .pure 11 <| .pure 12 <| .one 14 <| .pure 15 .done)) (by kernel_rfl) (by kernel_rfl) (fun _ _ d _ _ h => by cases d <;> exact h) ?_
      intro w9 hx9
      replace hO := hO.ext hx9
      clear hx9
      ((try clear hf); have hf := fa_ hO)
      (repeat (first | (apply inPlan_p _ rfl rfl rfl; focus (intro w8 K8 hK8; (repeat (first | go_skip | go_guarded | go_step)); exact hK8)) | (apply inPlan_s _ rfl rfl rfl; focus (intro w8 hI8 K8 hK8; obtain ⟨d0, d1⟩ := Own.immOf (φ := fun w => w.cell? ⟨zb, zo, none⟩ = some (.string ky) ∧ w.cell? ⟨zb, zo + 1, none⟩ = some (.string v)) hI8 pk_; (repeat (first | go_skip | go_guarded | go_step)); exact hK8))))
      refine inPlan_forkI rfl rfl ?_ ?_
      (intro K8 hK8; (repeat (first | go_skip | go_guarded | go_step)); (go_at_call 179; (with_reducible apply Calls.mono (HNO _); rintro e7 w7 ⟨rfl, hx7⟩; replace hO := hO.ext hx7; clear hx7; dsimp only; ((try clear hf); have hf := fa_ hO))); (repeat go_step); refine hK8 _ _ (hO.cut sb_) ?_; clear hK8 K8)
      refine inPlan_forkI rfl rfl ?_ ?_
      (intro K8 hK8; (repeat (first | go_skip | go_guarded | go_step)); (go_at_call 178; (with_reducible apply Calls.mono (HMP _); rintro e7 w7 ⟨rfl, hx7⟩; replace hO := hO.ext hx7; clear hx7; dsimp only; ((try clear hf); have hf := fa_ hO))); (repeat go_step); refine hK8 _ _ (hO.cut sb_) ?_; clear hK8 K8)
      (repeat (first | (apply inPlan_p _ rfl rfl rfl; focus (intro w8 K8 hK8; (repeat (first | go_skip | go_guarded | go_step)); exact hK8)) | (apply inPlan_s _ rfl rfl rfl; focus (intro w8 hI8 K8 hK8; obtain ⟨d0, d1⟩ := Own.immOf (φ := fun w => w.cell? ⟨zb, zo, none⟩ = some (.string ky) ∧ w.cell? ⟨zb, zo + 1, none⟩ = some (.string v)) hI8 pk_; (repeat (first | go_skip | go_guarded | go_step)); exact hK8))))
      refine inPlan_oneI rfl ?_
      (intro K8 hK8; (repeat (first | go_skip | go_guarded | go_step)); refine hK8 _ _ ((hO.alloc _ _).cut sb_) ?_; clear hK8 K8; with_reducible refine inPlan_alloc_own hO ?_; clear hO; intro w9 hO; ((try clear hf); have hf := fa_ hO))
      refine inPlan_oneI rfl ?_
      (intro K8 hK8; (repeat (first | go_skip | go_guarded | go_step)); (apply k_set_own (G := K8 _ _)); (focus (exact st_ hO)); clear hO; intro w9 hO; (try dsimp only [List.set] at hO); ((try clear hf); have hf := fa_ hO); refine hK8 _ _ (hO.cut sb_) ?_; clear hK8 K8)
      (repeat (first | (apply inPlan_p _ rfl rfl rfl; focus (intro w8 K8 hK8; (repeat (first | go_skip | go_guarded | go_step)); exact hK8)) | (apply inPlan_s _ rfl rfl rfl; focus (intro w8 hI8 K8 hK8; obtain ⟨d0, d1⟩ := Own.immOf (φ := fun w => w.cell? ⟨zb, zo, none⟩ = some (.string ky) ∧ w.cell? ⟨zb, zo + 1, none⟩ = some (.string v)) hI8 pk_; (repeat (first | go_skip | go_guarded | go_step)); exact hK8))))
      refine inPlan_done ?_
      rotate_left
      (intro K8 hK8; (repeat (first | go_skip | go_guarded | go_step)); refine hK8 _ _ ((hO.alloc _ _).cut sb_) ?_; clear hK8 K8; with_reducible refine inPlan_alloc_own hO ?_; clear hO; intro w9 hO; ((try clear hf); have hf := fa_ hO))
      refine inPlan_oneI rfl ?_
      (intro K8 hK8; (repeat (first | go_skip | go_guarded | go_step)); (go_at_call 178; (with_reducible apply Calls.mono (HMP _); rintro e7 w7 ⟨rfl, hx7⟩; replace hO := hO.ext hx7; clear hx7; dsimp only; ((try clear hf); have hf := fa_ hO))); (repeat go_step); refine hK8 _ _ (hO.cut sb_) ?_; clear hK8 K8)
      (repeat (first | (apply inPlan_p _ rfl rfl rfl; focus (intro w8 K8 hK8; (repeat (first | go_skip | go_guarded | go_step)); exact hK8)) | (apply inPlan_s _ rfl rfl rfl; focus (intro w8 hI8 K8 hK8; obtain ⟨d0, d1⟩ := Own.immOf (φ := fun w => w.cell? ⟨zb, zo, none⟩ = some (.string ky) ∧ w.cell? ⟨zb, zo + 1, none⟩ = some (.string v)) hI8 pk_; (repeat (first | go_skip | go_guarded | go_step)); exact hK8))))
      refine inPlan_oneI rfl ?_
      (intro K8 hK8; (repeat (first | go_skip | go_guarded | go_step)); (apply k_set_own (G := K8 _ _)); (focus (exact st_ hO)); clear hO; intro w9 hO; (try dsimp only [List.set] at hO); ((try clear hf); have hf := fa_ hO); refine hK8 _ _ (hO.cut sb_) ?_; clear hK8 K8)
      (repeat (first | (apply inPlan_p _ rfl rfl rfl; focus (intro w8 K8 hK8; (repeat (first | go_skip | go_guarded | go_step)); exact hK8)) | (apply inPlan_s _ rfl rfl rfl; focus (intro w8 hI8 K8 hK8; obtain ⟨d0, d1⟩ := Own.immOf (φ := fun w => w.cell? ⟨zb, zo, none⟩ = some (.string ky) ∧ w.cell? ⟨zb, zo + 1, none⟩ = some (.string v)) hI8 pk_; (repeat (first | go_skip | go_guarded | go_step)); exact hK8))))
      refine inPlan_done ?_
      rotate_left
      (intro K8 hK8; (repeat (first | go_skip | go_guarded | go_step)); refine hK8 _ _ ((hO.alloc _ _).cut sb_) ?_; clear hK8 K8; with_reducible refine inPlan_alloc_own hO ?_; clear hO; intro w9 hO; ((try clear hf); have hf := fa_ hO))
      refine inPlan_oneI rfl ?_
      (intro K8 hK8; (repeat (first | go_skip | go_guarded | go_step)); (go_at_call 179; (with_reducible apply Calls.mono (HNO _); rintro e7 w7 ⟨rfl, hx7⟩; replace hO := hO.ext hx7; clear hx7; dsimp only; ((try clear hf); have hf := fa_ hO))); (repeat go_step); refine hK8 _ _ (hO.cut sb_) ?_; clear hK8 K8)
      refine inPlan_oneI rfl ?_
      (intro K8 hK8; (repeat (first | go_skip | go_guarded | go_step)); (go_at_call 178; (with_reducible apply Calls.mono (HMP _); rintro e7 w7 ⟨rfl, hx7⟩; replace hO := hO.ext hx7; clear hx7; dsimp only; ((try clear hf); have hf := fa_ hO))); (repeat go_step); refine hK8 _ _ (hO.cut sb_) ?_; clear hK8 K8)
      (repeat (first | (apply inPlan_p _ rfl rfl rfl; focus (intro w8 K8 hK8; (repeat (first | go_skip | go_guarded | go_step)); exact hK8)) | (apply inPlan_s _ rfl rfl rfl; focus (intro w8 hI8 K8 hK8; obtain ⟨d0, d1⟩ := Own.immOf (φ := fun w => w.cell? ⟨zb, zo, none⟩ = some (.string ky) ∧ w.cell? ⟨zb, zo + 1, none⟩ = some (.string v)) hI8 pk_; (repeat (first | go_skip | go_guarded | go_step)); exact hK8))))
      refine inPlan_oneI rfl ?_
      (intro K8 hK8; (repeat (first | go_skip | go_guarded | go_step)); (apply k_set_own (G := K8 _ _)); (focus (exact st_ hO)); clear hO; intro w9 hO; (try dsimp only [List.set] at hO); ((try clear hf); have hf := fa_ hO); refine hK8 _ _ (hO.cut sb_) ?_; clear hK8 K8)
      (repeat (first | (apply inPlan_p _ rfl rfl rfl; focus (intro w8 K8 hK8; (repeat (first | go_skip | go_guarded | go_step)); exact hK8)) | (apply inPlan_s _ rfl rfl rfl; focus (intro w8 hI8 K8 hK8; obtain ⟨d0, d1⟩ := Own.immOf (φ := fun w => w.cell? ⟨zb, zo, none⟩ = some (.string ky) ∧ w.cell? ⟨zb, zo + 1, none⟩ = some (.string v)) hI8 pk_; (repeat (first | go_skip | go_guarded | go_step)); exact hK8))))
      refine inPlan_done ?_
      all_goals
        go_wp2_with (first | ((refine sy_ hO ?_); clear hO; intro w9 hO; (try dsimp only [List.set] at hO); ((try clear hf); have hf := fa_ hO)))
        all_goals try (exfalso; omega; done)
        rw [show (⟨#[0]⟩ : ByteArray) = nul from rfl] at hO
        exact ⟨⟨C', R2, ky ++ nul, HI2, Lib.hid ⟨n + 1, HL2.out, HR2.out⟩, by (try simp only [CA]); exact hO.cut sb_⟩, by rw [cellS_eq (hO.factOf (r := Var g [.string (ky ++ nul), .string (hiB name)] 49) pk_)]; exact Nat.lt_of_lt_of_le HM2.out (Nat.le_of_eq HC.out.symm)⟩
    | @lost _ _ _ _ n v t hL h1 hn2 hv h2 h3 h4 h5 e =>
      have HSC := rscan_does q since ra rc rows C' R' lo (hiB name) 1 _ hL (by omega) hr40 (by omega) (hL ▸ hks)
      have e1 : scnO (⟨msgB name n, v⟩ :: t) R' lo (hiB name) 1 = [⟨msgB name n, v⟩] := by unfold scnO; rw [if_pos h1]; rfl
      rw [e1, h1] at HSC
      dsimp only [List.length_cons, List.length_nil, List.flatMap_cons, List.flatMap_nil] at HSC
      have HNO : ∀ w, Calls Tryz.prog 179 #[.string (msgB name n)] w fun e w' => e = .returned (.int .i64 (n : Int)) ∧ Ext w w' := fun w => (rnumberOf_any name n w (by omega) hn2).mono fun e w' h => ⟨h.1, h.2 ▸ Ext.refl _⟩
      have HMP := fun w => rmpar_any (n : Int) v (by omega) w
      have hks2 : (msgB name n).size ≤ 300 := by rw [msgB_size]; omega
      have hkn : k ≤ n := hlo.num hn2 (List.mem_filter.1 (show (⟨msgB name n, v⟩ : Rw) ∈ inR lo (hiB name) (C'.foldl appR rows) by rw [hL]; exact List.mem_cons_self ..)).2
      have hlo2 : LoOk name (n + 1) (msgB name n ++ nul) := .inr ⟨n, hn2, rfl, rfl⟩
      have HL2 := Lib.hid hlo2
      have HM2 := Lib.hid (show measF name (msgB name n ++ nul) < measF name lo by rw [hlo.meas, hlo2.meas]; omega)
      clear hlo2
      have hmm : (msOf n v).1.num = n ∧ ¬ (msOf n v).1.bad := by
        rcases msOf_cases n v with ⟨m, hm, hmn, hmb, _⟩ | ⟨hm, _⟩
        · rw [hm]; exact ⟨hmn, hmb⟩
        · rw [hm] at h2; cases h2
      rw [h2] at HMP
      generalize (msOf n v).1 = mm at *
      obtain ⟨mn, mt, mu, mb⟩ := mm
      obtain ⟨hmn, hmb⟩ := hmm
      dsimp only at hmn
      subst hmn
      unfold Ms.v at HMP
      dsimp only at *
      have hmm : ¬ Ms.bad ⟨n, mt, mu, mb⟩ := hmb
      unfold Ms.bad at hmb
      dsimp only at hmb
      have hm1 : 0 ≤ mt ∧ mt ≤ 9 ∧ 0 ≤ mu ∧ mu ≤ 2000000 := by omega
      obtain ⟨hm1, hm2, hm3, hm4⟩ := hm1
      clear hmb
      have HI1 := HI.out.scan (⟨msgB name n, v⟩ :: t) lo (hiB name) 1
      have HIP := HI1.put (goneC name n)
      have HP := rput_does q since ra rc rows C' (scnB (⟨msgB name n, v⟩ :: t) R' lo (hiB name) 1) ⟨msgB name n, ⟨#[]⟩, true⟩ hks2 (show (0 : Nat) ≤ 1000 by omega) (by omega) HI.out.ups
      unfold Ch.v at HP
      dsimp only at HP
      have hno : putN C' ⟨msgB name n, ⟨#[]⟩, true⟩ ≠ 0 → putL C' ⟨msgB name n, ⟨#[]⟩, true⟩ = C' := fun h => putL_no h
      have hb := bury_cases (valR rows) C' (scnB (⟨msgB name n, v⟩ :: t) R' lo (hiB name) 1) name ⟨un, ut, ud⟩ ⟨n, mt, mu, mb⟩
      dsimp only at hb
      have hbok := findN_ok (y := valR rows (queB ud)) (C := putL C' (goneC name n)) (R := scnB (⟨msgB name n, v⟩ :: t) R' lo (hiB name) 1) (name := ud)
      have HF := rFind_does q since ra rc rows (putL C' (goneC name n)) (scnB (⟨msgB name n, v⟩ :: t) R' lo (hiB name) 1) ud (valR_val (fun r hr => (HS.out.ok r hr).2) _) HIP.val (by omega) (by omega) (by have := HIP.c12; omega) HIP.r40
      have HSE := fun (fu : Qu) h1 h2 h3 => rsend_does q since ra rc rows (putL C' (goneC name n)) (findR (putL C' (goneC name n)) (scnB (⟨msgB name n, v⟩ :: t) R' lo (hiB name) 1) ud) ud fu mb 0 h1 h2 h3 (by omega) (by have := HIP.c12; omega) HIP.ups
      rw [show goneC name n = (⟨msgB name n, ⟨#[]⟩, true⟩ : Ch) from rfl] at *
      generalize scnB _ R' lo (hiB name) 1 = R2 at *
      generalize buryA (valR rows) C' R2 name ⟨un, ut, ud⟩ ⟨n, mt, mu, mb⟩ = b at *
      generalize findN (valR rows (queB ud)) (putL C' ⟨msgB name n, ⟨#[]⟩, true⟩) R2 ud = fn at *
      generalize findR (putL C' ⟨msgB name n, ⟨#[]⟩, true⟩) R2 ud = R3 at *
      generalize putL C' ⟨msgB name n, ⟨#[]⟩, true⟩ = C2 at *
      generalize putN C' ⟨msgB name n, ⟨#[]⟩, true⟩ = N at *
      obtain ⟨⟨fa, fb, fd⟩, fe⟩ := fn
      unfold Qu.v at HF HSE
      dsimp only at *
      have HE := Lib.hid e
      clear e
      rcases hb with ⟨hb1, rfl⟩ | ⟨hb1, hb2, rfl⟩ | ⟨hb1, hb2, hb3, rfl⟩ | ⟨hb1, hb2, hb3, rfl⟩
      · obtain rfl := hno hb1
        clear HI1 HIP h1 h2 hL hks hlo hmm e1 HF HSE HC hbok hno
        generalize hkk : msgB name n = ky at *
        clear hkk
        go_upto_region 7 with (first | (go_at_call 24; (with_reducible apply Does.use hO (HSC); (focus exact tk_); clear hO; intro x9 w9 hO; dsimp only at hO ⊢; simp only [CA] at hO; ((try clear hf); have hf := fa_ hO); (obtain ⟨za, zc⟩ := x9; dsimp only at hO ⊢; ((try clear hf); have hf := fa_ hO)))) | ((refine sy_ hO ?_); clear hO; intro w9 hO; (try dsimp only [List.set] at hO); ((try clear hf); have hf := fa_ hO)))
        obtain ⟨zb, zo, rfl⟩ := rw_some (a := za) (l := [⟨ky, v⟩]) (i := 0) (hO.immOf (φ := fun w => ValsAt w za ([⟨ky, v⟩].flatMap rwC)) pk_) (by simp)
        have hO := (hO.pick (r := .imm fun w => ValsAt w (some ⟨zb, zo, none⟩) ([⟨ky, v⟩].flatMap rwC)) pk_).imp (ψ := fun w => w.cell? ⟨zb, zo, none⟩ = some (.string ky) ∧ w.cell? ⟨zb, zo + 1, none⟩ = some (.string v)) fun w h => by
          have := rw_cells (l := [⟨ky, v⟩]) (i := 0) h (by simp)
          simpa using this
        ((try clear hf); have hf := fa_ hO)
        refine wp_region_planI (fun w8 => Own S W w8 (.imm (fun w => w.cell? ⟨zb, zo, none⟩ = some (.string ky) ∧ w.cell? ⟨zb, zo + 1, none⟩ = some (.string v)) :: L0)) (fun _ _ h hx => h.ext hx) (hO.cut sb_) [0, 1, 2, 5, 6, 7, 10, 11, 12, 15, 1003, 1008] (.pure 0 <| .pure 1 <| .pure 2 <| .see 3 <| .pure 5 <| .pure 6 <| .pure 7 <| .see 8 <| .fork 4 (.fork 9 (.pure 10 <| .pure 11 <| .pure 12 <| .one 13 <| .one 14 <| .pure 15 .done) 13 (.one 9 <| .pure 10 <| .pure 11 <| .pure 12 <| .one 14 <| .pure 15 .done)) 13 (.one 4 <| .one 9 <| .pure 10 <| .pure 11 <| .pure 12 <| .one 14 <| .pure 15 .done)) (by kernel_rfl) (by kernel_rfl) (fun _ _ d _ _ h => by cases d <;> exact h) ?_
        intro w9 hx9
        replace hO := hO.ext hx9
        clear hx9
        ((try clear hf); have hf := fa_ hO)
        (repeat (first | (apply inPlan_p _ rfl rfl rfl; focus (intro w8 K8 hK8; (repeat (first | go_skip | go_guarded | go_step)); exact hK8)) | (apply inPlan_s _ rfl rfl rfl; focus (intro w8 hI8 K8 hK8; obtain ⟨d0, d1⟩ := Own.immOf (φ := fun w => w.cell? ⟨zb, zo, none⟩ = some (.string ky) ∧ w.cell? ⟨zb, zo + 1, none⟩ = some (.string v)) hI8 pk_; (repeat (first | go_skip | go_guarded | go_step)); exact hK8))))
        refine inPlan_forkI rfl rfl ?_ ?_
        (intro K8 hK8; (repeat (first | go_skip | go_guarded | go_step)); (go_at_call 179; (with_reducible apply Calls.mono (HNO _); rintro e7 w7 ⟨rfl, hx7⟩; replace hO := hO.ext hx7; clear hx7; dsimp only; ((try clear hf); have hf := fa_ hO))); (repeat go_step); refine hK8 _ _ (hO.cut sb_) ?_; clear hK8 K8)
        refine inPlan_forkI rfl rfl ?_ ?_
        (intro K8 hK8; (repeat (first | go_skip | go_guarded | go_step)); (go_at_call 178; (with_reducible apply Calls.mono (HMP _); rintro e7 w7 ⟨rfl, hx7⟩; replace hO := hO.ext hx7; clear hx7; dsimp only; ((try clear hf); have hf := fa_ hO))); (repeat go_step); refine hK8 _ _ (hO.cut sb_) ?_; clear hK8 K8)
        (repeat (first | (apply inPlan_p _ rfl rfl rfl; focus (intro w8 K8 hK8; (repeat (first | go_skip | go_guarded | go_step)); exact hK8)) | (apply inPlan_s _ rfl rfl rfl; focus (intro w8 hI8 K8 hK8; obtain ⟨d0, d1⟩ := Own.immOf (φ := fun w => w.cell? ⟨zb, zo, none⟩ = some (.string ky) ∧ w.cell? ⟨zb, zo + 1, none⟩ = some (.string v)) hI8 pk_; (repeat (first | go_skip | go_guarded | go_step)); exact hK8))))
        refine inPlan_oneI rfl ?_
        (intro K8 hK8; (repeat (first | go_skip | go_guarded | go_step)); refine hK8 _ _ ((hO.alloc _ _).cut sb_) ?_; clear hK8 K8; with_reducible refine inPlan_alloc_own hO ?_; clear hO; intro w9 hO; ((try clear hf); have hf := fa_ hO))
        refine inPlan_oneI rfl ?_
        (intro K8 hK8; (repeat (first | go_skip | go_guarded | go_step)); (apply k_set_own (G := K8 _ _)); (focus (exact st_ hO)); clear hO; intro w9 hO; (try dsimp only [List.set] at hO); ((try clear hf); have hf := fa_ hO); refine hK8 _ _ (hO.cut sb_) ?_; clear hK8 K8)
        (repeat (first | (apply inPlan_p _ rfl rfl rfl; focus (intro w8 K8 hK8; (repeat (first | go_skip | go_guarded | go_step)); exact hK8)) | (apply inPlan_s _ rfl rfl rfl; focus (intro w8 hI8 K8 hK8; obtain ⟨d0, d1⟩ := Own.immOf (φ := fun w => w.cell? ⟨zb, zo, none⟩ = some (.string ky) ∧ w.cell? ⟨zb, zo + 1, none⟩ = some (.string v)) hI8 pk_; (repeat (first | go_skip | go_guarded | go_step)); exact hK8))))
        refine inPlan_done ?_
        rotate_left
        (intro K8 hK8; (repeat (first | go_skip | go_guarded | go_step)); refine hK8 _ _ ((hO.alloc _ _).cut sb_) ?_; clear hK8 K8; with_reducible refine inPlan_alloc_own hO ?_; clear hO; intro w9 hO; ((try clear hf); have hf := fa_ hO))
        refine inPlan_oneI rfl ?_
        (intro K8 hK8; (repeat (first | go_skip | go_guarded | go_step)); (go_at_call 178; (with_reducible apply Calls.mono (HMP _); rintro e7 w7 ⟨rfl, hx7⟩; replace hO := hO.ext hx7; clear hx7; dsimp only; ((try clear hf); have hf := fa_ hO))); (repeat go_step); refine hK8 _ _ (hO.cut sb_) ?_; clear hK8 K8)
        (repeat (first | (apply inPlan_p _ rfl rfl rfl; focus (intro w8 K8 hK8; (repeat (first | go_skip | go_guarded | go_step)); exact hK8)) | (apply inPlan_s _ rfl rfl rfl; focus (intro w8 hI8 K8 hK8; obtain ⟨d0, d1⟩ := Own.immOf (φ := fun w => w.cell? ⟨zb, zo, none⟩ = some (.string ky) ∧ w.cell? ⟨zb, zo + 1, none⟩ = some (.string v)) hI8 pk_; (repeat (first | go_skip | go_guarded | go_step)); exact hK8))))
        refine inPlan_oneI rfl ?_
        (intro K8 hK8; (repeat (first | go_skip | go_guarded | go_step)); (apply k_set_own (G := K8 _ _)); (focus (exact st_ hO)); clear hO; intro w9 hO; (try dsimp only [List.set] at hO); ((try clear hf); have hf := fa_ hO); refine hK8 _ _ (hO.cut sb_) ?_; clear hK8 K8)
        (repeat (first | (apply inPlan_p _ rfl rfl rfl; focus (intro w8 K8 hK8; (repeat (first | go_skip | go_guarded | go_step)); exact hK8)) | (apply inPlan_s _ rfl rfl rfl; focus (intro w8 hI8 K8 hK8; obtain ⟨d0, d1⟩ := Own.immOf (φ := fun w => w.cell? ⟨zb, zo, none⟩ = some (.string ky) ∧ w.cell? ⟨zb, zo + 1, none⟩ = some (.string v)) hI8 pk_; (repeat (first | go_skip | go_guarded | go_step)); exact hK8))))
        refine inPlan_done ?_
        rotate_left
        (intro K8 hK8; (repeat (first | go_skip | go_guarded | go_step)); refine hK8 _ _ ((hO.alloc _ _).cut sb_) ?_; clear hK8 K8; with_reducible refine inPlan_alloc_own hO ?_; clear hO; intro w9 hO; ((try clear hf); have hf := fa_ hO))
        refine inPlan_oneI rfl ?_
        (intro K8 hK8; (repeat (first | go_skip | go_guarded | go_step)); (go_at_call 179; (with_reducible apply Calls.mono (HNO _); rintro e7 w7 ⟨rfl, hx7⟩; replace hO := hO.ext hx7; clear hx7; dsimp only; ((try clear hf); have hf := fa_ hO))); (repeat go_step); refine hK8 _ _ (hO.cut sb_) ?_; clear hK8 K8)
        refine inPlan_oneI rfl ?_
        (intro K8 hK8; (repeat (first | go_skip | go_guarded | go_step)); (go_at_call 178; (with_reducible apply Calls.mono (HMP _); rintro e7 w7 ⟨rfl, hx7⟩; replace hO := hO.ext hx7; clear hx7; dsimp only; ((try clear hf); have hf := fa_ hO))); (repeat go_step); refine hK8 _ _ (hO.cut sb_) ?_; clear hK8 K8)
        (repeat (first | (apply inPlan_p _ rfl rfl rfl; focus (intro w8 K8 hK8; (repeat (first | go_skip | go_guarded | go_step)); exact hK8)) | (apply inPlan_s _ rfl rfl rfl; focus (intro w8 hI8 K8 hK8; obtain ⟨d0, d1⟩ := Own.immOf (φ := fun w => w.cell? ⟨zb, zo, none⟩ = some (.string ky) ∧ w.cell? ⟨zb, zo + 1, none⟩ = some (.string v)) hI8 pk_; (repeat (first | go_skip | go_guarded | go_step)); exact hK8))))
        refine inPlan_oneI rfl ?_
        (intro K8 hK8; (repeat (first | go_skip | go_guarded | go_step)); (apply k_set_own (G := K8 _ _)); (focus (exact st_ hO)); clear hO; intro w9 hO; (try dsimp only [List.set] at hO); ((try clear hf); have hf := fa_ hO); refine hK8 _ _ (hO.cut sb_) ?_; clear hK8 K8)
        (repeat (first | (apply inPlan_p _ rfl rfl rfl; focus (intro w8 K8 hK8; (repeat (first | go_skip | go_guarded | go_step)); exact hK8)) | (apply inPlan_s _ rfl rfl rfl; focus (intro w8 hI8 K8 hK8; obtain ⟨d0, d1⟩ := Own.immOf (φ := fun w => w.cell? ⟨zb, zo, none⟩ = some (.string ky) ∧ w.cell? ⟨zb, zo + 1, none⟩ = some (.string v)) hI8 pk_; (repeat (first | go_skip | go_guarded | go_step)); exact hK8))))
        refine inPlan_done ?_
        all_goals
          go_wp2_with (first | (go_at_call 21; (with_reducible apply Does.use hO (HP); (focus exact tk_); clear hO; intro x9 w9 hO; dsimp only at hO ⊢; simp only [CA] at hO; ((try clear hf); have hf := fa_ hO))) | ((refine sy_ hO ?_); clear hO; intro w9 hO; (try dsimp only [List.set] at hO); ((try clear hf); have hf := fa_ hO)))
          all_goals try (exfalso; omega; done)
          ((refine bodyPost_run rfl fun K hK => ?_; simp [results, Tryz.results170, go_sem, hf]; refine hK _ ⟨(), ?_, ?_⟩); (focus (rw [HE.out]; rfl)); (focus (rw [HE.out]; dsimp only; (try simp only [CA]); exact hO.cut sb_)))
      · exact absurd rfl h5
      · subst hb1
        obtain ⟨ne1, ne2, ne3, ne4⟩ := no_sp hb2
        clear HI1 HIP h1 h2 hL hks hlo hmm e1 HSE HC hbok hno
        dsimp only at h5
        generalize hkk : msgB name n = ky at *
        clear hkk
        go_upto_region 7 with (first | (go_at_call 24; (with_reducible apply Does.use hO (HSC); (focus exact tk_); clear hO; intro x9 w9 hO; dsimp only at hO ⊢; simp only [CA] at hO; ((try clear hf); have hf := fa_ hO); (obtain ⟨za, zc⟩ := x9; dsimp only at hO ⊢; ((try clear hf); have hf := fa_ hO)))) | ((refine sy_ hO ?_); clear hO; intro w9 hO; (try dsimp only [List.set] at hO); ((try clear hf); have hf := fa_ hO)))
        obtain ⟨zb, zo, rfl⟩ := rw_some (a := za) (l := [⟨ky, v⟩]) (i := 0) (hO.immOf (φ := fun w => ValsAt w za ([⟨ky, v⟩].flatMap rwC)) pk_) (by simp)
        have hO := (hO.pick (r := .imm fun w => ValsAt w (some ⟨zb, zo, none⟩) ([⟨ky, v⟩].flatMap rwC)) pk_).imp (ψ := fun w => w.cell? ⟨zb, zo, none⟩ = some (.string ky) ∧ w.cell? ⟨zb, zo + 1, none⟩ = some (.string v)) fun w h => by
          have := rw_cells (l := [⟨ky, v⟩]) (i := 0) h (by simp)
          simpa using this
        ((try clear hf); have hf := fa_ hO)
        refine wp_region_planI (fun w8 => Own S W w8 (.imm (fun w => w.cell? ⟨zb, zo, none⟩ = some (.string ky) ∧ w.cell? ⟨zb, zo + 1, none⟩ = some (.string v)) :: L0)) (fun _ _ h hx => h.ext hx) (hO.cut sb_) [0, 1, 2, 5, 6, 7, 10, 11, 12, 15, 1003, 1008] (.pure 0 <| .pure 1 <| .pure 2 <| .see 3 <| .pure 5 <| .pure 6 <| .pure 7 <| .see 8 <| .fork 4 (.fork 9 (.pure 10 <| .pure 11 <| .pure 12 <| .one 13 <| .one 14 <| .pure 15 .done) 13 (.one 9 <| .pure 10 <| .pure 11 <| .pure 12 <| .one 14 <| .pure 15 .done)) 13 (.one 4 <| .one 9 <| .pure 10 <| .pure 11 <| .pure 12 <| .one 14 <| .pure 15 .done)) (by kernel_rfl) (by kernel_rfl) (fun _ _ d _ _ h => by cases d <;> exact h) ?_
        intro w9 hx9
        replace hO := hO.ext hx9
        clear hx9
        ((try clear hf); have hf := fa_ hO)
        (repeat (first | (apply inPlan_p _ rfl rfl rfl; focus (intro w8 K8 hK8; (repeat (first | go_skip | go_guarded | go_step)); exact hK8)) | (apply inPlan_s _ rfl rfl rfl; focus (intro w8 hI8 K8 hK8; obtain ⟨d0, d1⟩ := Own.immOf (φ := fun w => w.cell? ⟨zb, zo, none⟩ = some (.string ky) ∧ w.cell? ⟨zb, zo + 1, none⟩ = some (.string v)) hI8 pk_; (repeat (first | go_skip | go_guarded | go_step)); exact hK8))))
        refine inPlan_forkI rfl rfl ?_ ?_
        (intro K8 hK8; (repeat (first | go_skip | go_guarded | go_step)); (go_at_call 179; (with_reducible apply Calls.mono (HNO _); rintro e7 w7 ⟨rfl, hx7⟩; replace hO := hO.ext hx7; clear hx7; dsimp only; ((try clear hf); have hf := fa_ hO))); (repeat go_step); refine hK8 _ _ (hO.cut sb_) ?_; clear hK8 K8)
        refine inPlan_forkI rfl rfl ?_ ?_
        (intro K8 hK8; (repeat (first | go_skip | go_guarded | go_step)); (go_at_call 178; (with_reducible apply Calls.mono (HMP _); rintro e7 w7 ⟨rfl, hx7⟩; replace hO := hO.ext hx7; clear hx7; dsimp only; ((try clear hf); have hf := fa_ hO))); (repeat go_step); refine hK8 _ _ (hO.cut sb_) ?_; clear hK8 K8)
        (repeat (first | (apply inPlan_p _ rfl rfl rfl; focus (intro w8 K8 hK8; (repeat (first | go_skip | go_guarded | go_step)); exact hK8)) | (apply inPlan_s _ rfl rfl rfl; focus (intro w8 hI8 K8 hK8; obtain ⟨d0, d1⟩ := Own.immOf (φ := fun w => w.cell? ⟨zb, zo, none⟩ = some (.string ky) ∧ w.cell? ⟨zb, zo + 1, none⟩ = some (.string v)) hI8 pk_; (repeat (first | go_skip | go_guarded | go_step)); exact hK8))))
        refine inPlan_oneI rfl ?_
        (intro K8 hK8; (repeat (first | go_skip | go_guarded | go_step)); refine hK8 _ _ ((hO.alloc _ _).cut sb_) ?_; clear hK8 K8; with_reducible refine inPlan_alloc_own hO ?_; clear hO; intro w9 hO; ((try clear hf); have hf := fa_ hO))
        refine inPlan_oneI rfl ?_
        (intro K8 hK8; (repeat (first | go_skip | go_guarded | go_step)); (apply k_set_own (G := K8 _ _)); (focus (exact st_ hO)); clear hO; intro w9 hO; (try dsimp only [List.set] at hO); ((try clear hf); have hf := fa_ hO); refine hK8 _ _ (hO.cut sb_) ?_; clear hK8 K8)
        (repeat (first | (apply inPlan_p _ rfl rfl rfl; focus (intro w8 K8 hK8; (repeat (first | go_skip | go_guarded | go_step)); exact hK8)) | (apply inPlan_s _ rfl rfl rfl; focus (intro w8 hI8 K8 hK8; obtain ⟨d0, d1⟩ := Own.immOf (φ := fun w => w.cell? ⟨zb, zo, none⟩ = some (.string ky) ∧ w.cell? ⟨zb, zo + 1, none⟩ = some (.string v)) hI8 pk_; (repeat (first | go_skip | go_guarded | go_step)); exact hK8))))
        refine inPlan_done ?_
        rotate_left
        (intro K8 hK8; (repeat (first | go_skip | go_guarded | go_step)); refine hK8 _ _ ((hO.alloc _ _).cut sb_) ?_; clear hK8 K8; with_reducible refine inPlan_alloc_own hO ?_; clear hO; intro w9 hO; ((try clear hf); have hf := fa_ hO))
        refine inPlan_oneI rfl ?_
        (intro K8 hK8; (repeat (first | go_skip | go_guarded | go_step)); (go_at_call 178; (with_reducible apply Calls.mono (HMP _); rintro e7 w7 ⟨rfl, hx7⟩; replace hO := hO.ext hx7; clear hx7; dsimp only; ((try clear hf); have hf := fa_ hO))); (repeat go_step); refine hK8 _ _ (hO.cut sb_) ?_; clear hK8 K8)
        (repeat (first | (apply inPlan_p _ rfl rfl rfl; focus (intro w8 K8 hK8; (repeat (first | go_skip | go_guarded | go_step)); exact hK8)) | (apply inPlan_s _ rfl rfl rfl; focus (intro w8 hI8 K8 hK8; obtain ⟨d0, d1⟩ := Own.immOf (φ := fun w => w.cell? ⟨zb, zo, none⟩ = some (.string ky) ∧ w.cell? ⟨zb, zo + 1, none⟩ = some (.string v)) hI8 pk_; (repeat (first | go_skip | go_guarded | go_step)); exact hK8))))
        refine inPlan_oneI rfl ?_
        (intro K8 hK8; (repeat (first | go_skip | go_guarded | go_step)); (apply k_set_own (G := K8 _ _)); (focus (exact st_ hO)); clear hO; intro w9 hO; (try dsimp only [List.set] at hO); ((try clear hf); have hf := fa_ hO); refine hK8 _ _ (hO.cut sb_) ?_; clear hK8 K8)
        (repeat (first | (apply inPlan_p _ rfl rfl rfl; focus (intro w8 K8 hK8; (repeat (first | go_skip | go_guarded | go_step)); exact hK8)) | (apply inPlan_s _ rfl rfl rfl; focus (intro w8 hI8 K8 hK8; obtain ⟨d0, d1⟩ := Own.immOf (φ := fun w => w.cell? ⟨zb, zo, none⟩ = some (.string ky) ∧ w.cell? ⟨zb, zo + 1, none⟩ = some (.string v)) hI8 pk_; (repeat (first | go_skip | go_guarded | go_step)); exact hK8))))
        refine inPlan_done ?_
        rotate_left
        (intro K8 hK8; (repeat (first | go_skip | go_guarded | go_step)); refine hK8 _ _ ((hO.alloc _ _).cut sb_) ?_; clear hK8 K8; with_reducible refine inPlan_alloc_own hO ?_; clear hO; intro w9 hO; ((try clear hf); have hf := fa_ hO))
        refine inPlan_oneI rfl ?_
        (intro K8 hK8; (repeat (first | go_skip | go_guarded | go_step)); (go_at_call 179; (with_reducible apply Calls.mono (HNO _); rintro e7 w7 ⟨rfl, hx7⟩; replace hO := hO.ext hx7; clear hx7; dsimp only; ((try clear hf); have hf := fa_ hO))); (repeat go_step); refine hK8 _ _ (hO.cut sb_) ?_; clear hK8 K8)
        refine inPlan_oneI rfl ?_
        (intro K8 hK8; (repeat (first | go_skip | go_guarded | go_step)); (go_at_call 178; (with_reducible apply Calls.mono (HMP _); rintro e7 w7 ⟨rfl, hx7⟩; replace hO := hO.ext hx7; clear hx7; dsimp only; ((try clear hf); have hf := fa_ hO))); (repeat go_step); refine hK8 _ _ (hO.cut sb_) ?_; clear hK8 K8)
        (repeat (first | (apply inPlan_p _ rfl rfl rfl; focus (intro w8 K8 hK8; (repeat (first | go_skip | go_guarded | go_step)); exact hK8)) | (apply inPlan_s _ rfl rfl rfl; focus (intro w8 hI8 K8 hK8; obtain ⟨d0, d1⟩ := Own.immOf (φ := fun w => w.cell? ⟨zb, zo, none⟩ = some (.string ky) ∧ w.cell? ⟨zb, zo + 1, none⟩ = some (.string v)) hI8 pk_; (repeat (first | go_skip | go_guarded | go_step)); exact hK8))))
        refine inPlan_oneI rfl ?_
        (intro K8 hK8; (repeat (first | go_skip | go_guarded | go_step)); (apply k_set_own (G := K8 _ _)); (focus (exact st_ hO)); clear hO; intro w9 hO; (try dsimp only [List.set] at hO); ((try clear hf); have hf := fa_ hO); refine hK8 _ _ (hO.cut sb_) ?_; clear hK8 K8)
        (repeat (first | (apply inPlan_p _ rfl rfl rfl; focus (intro w8 K8 hK8; (repeat (first | go_skip | go_guarded | go_step)); exact hK8)) | (apply inPlan_s _ rfl rfl rfl; focus (intro w8 hI8 K8 hK8; obtain ⟨d0, d1⟩ := Own.immOf (φ := fun w => w.cell? ⟨zb, zo, none⟩ = some (.string ky) ∧ w.cell? ⟨zb, zo + 1, none⟩ = some (.string v)) hI8 pk_; (repeat (first | go_skip | go_guarded | go_step)); exact hK8))))
        refine inPlan_done ?_
        all_goals
          go_wp2_with (first | (go_at_call 21; (with_reducible apply Does.use hO (HP); (focus exact tk_); clear hO; intro x9 w9 hO; dsimp only at hO ⊢; simp only [CA] at hO; ((try clear hf); have hf := fa_ hO))) | (go_at_call 116; (with_reducible apply Does.use hO (HF); (focus exact tk_); clear hO; intro x9 w9 hO; dsimp only at hO ⊢; simp only [CA] at hO; ((try clear hf); have hf := fa_ hO))) | ((refine sy_ hO ?_); clear hO; intro w9 hO; (try dsimp only [List.set] at hO); ((try clear hf); have hf := fa_ hO)))
          all_goals try (exfalso; omega; done)
          all_goals try (exfalso; simp_all; done)
          ((refine bodyPost_run rfl fun K hK => ?_; simp [results, Tryz.results170, go_sem, hf]; refine hK _ ⟨(), ?_, ?_⟩); (focus (rw [HE.out]; rfl)); (focus (rw [HE.out]; dsimp only; (try simp only [CA]); exact hO.cut sb_)))
      · subst hb1 hb3
        obtain ⟨g0, g1, g2, _, _⟩ := hbok rfl
        have HSD := HSE ⟨fa, fb, fd⟩ g0 g1 (show fd.size ≤ 50 by omega)
        obtain ⟨ne1, ne2, ne3, ne4⟩ := no_sp hb2
        clear HI1 HIP h1 h2 hL hks hlo hmm e1 HSE HC hbok g0 g1 g2 hno
        dsimp only at HSD h5
        generalize sendA C2 ud ⟨fa, fb, fd⟩ mb 0 = sr at *
        obtain ⟨s1, s2, s3⟩ := sr
        dsimp only at HSD h5
        generalize hkk : msgB name n = ky at *
        clear hkk
        go_upto_region 7 with (first | (go_at_call 24; (with_reducible apply Does.use hO (HSC); (focus exact tk_); clear hO; intro x9 w9 hO; dsimp only at hO ⊢; simp only [CA] at hO; ((try clear hf); have hf := fa_ hO); (obtain ⟨za, zc⟩ := x9; dsimp only at hO ⊢; ((try clear hf); have hf := fa_ hO)))) | ((refine sy_ hO ?_); clear hO; intro w9 hO; (try dsimp only [List.set] at hO); ((try clear hf); have hf := fa_ hO)))
        obtain ⟨zb, zo, rfl⟩ := rw_some (a := za) (l := [⟨ky, v⟩]) (i := 0) (hO.immOf (φ := fun w => ValsAt w za ([⟨ky, v⟩].flatMap rwC)) pk_) (by simp)
        have hO := (hO.pick (r := .imm fun w => ValsAt w (some ⟨zb, zo, none⟩) ([⟨ky, v⟩].flatMap rwC)) pk_).imp (ψ := fun w => w.cell? ⟨zb, zo, none⟩ = some (.string ky) ∧ w.cell? ⟨zb, zo + 1, none⟩ = some (.string v)) fun w h => by
          have := rw_cells (l := [⟨ky, v⟩]) (i := 0) h (by simp)
          simpa using this
        ((try clear hf); have hf := fa_ hO)
        refine wp_region_planI (fun w8 => Own S W w8 (.imm (fun w => w.cell? ⟨zb, zo, none⟩ = some (.string ky) ∧ w.cell? ⟨zb, zo + 1, none⟩ = some (.string v)) :: L0)) (fun _ _ h hx => h.ext hx) (hO.cut sb_) [0, 1, 2, 5, 6, 7, 10, 11, 12, 15, 1003, 1008] (.pure 0 <| .pure 1 <| .pure 2 <| .see 3 <| .pure 5 <| .pure 6 <| .pure 7 <| .see 8 <| .fork 4 (.fork 9 (.pure 10 <| .pure 11 <| .pure 12 <| .one 13 <| .one 14 <| .pure 15 .done) 13 (.one 9 <| .pure 10 <| .pure 11 <| .pure 12 <| .one 14 <| .pure 15 .done)) 13 (.one 4 <| .one 9 <| .pure 10 <| .pure 11 <| .pure 12 <| .one 14 <| .pure 15 .done)) (by kernel_rfl) (by kernel_rfl) (fun _ _ d _ _ h => by cases d <;> exact h) ?_
        intro w9 hx9
        replace hO := hO.ext hx9
        clear hx9
        ((try clear hf); have hf := fa_ hO)
        (repeat (first | (apply inPlan_p _ rfl rfl rfl; focus (intro w8 K8 hK8; (repeat (first | go_skip | go_guarded | go_step)); exact hK8)) | (apply inPlan_s _ rfl rfl rfl; focus (intro w8 hI8 K8 hK8; obtain ⟨d0, d1⟩ := Own.immOf (φ := fun w => w.cell? ⟨zb, zo, none⟩ = some (.string ky) ∧ w.cell? ⟨zb, zo + 1, none⟩ = some (.string v)) hI8 pk_; (repeat (first | go_skip | go_guarded | go_step)); exact hK8))))
        refine inPlan_forkI rfl rfl ?_ ?_
        (intro K8 hK8; (repeat (first | go_skip | go_guarded | go_step)); (go_at_call 179; (with_reducible apply Calls.mono (HNO _); rintro e7 w7 ⟨rfl, hx7⟩; replace hO := hO.ext hx7; clear hx7; dsimp only; ((try clear hf); have hf := fa_ hO))); (repeat go_step); refine hK8 _ _ (hO.cut sb_) ?_; clear hK8 K8)
        refine inPlan_forkI rfl rfl ?_ ?_
        (intro K8 hK8; (repeat (first | go_skip | go_guarded | go_step)); (go_at_call 178; (with_reducible apply Calls.mono (HMP _); rintro e7 w7 ⟨rfl, hx7⟩; replace hO := hO.ext hx7; clear hx7; dsimp only; ((try clear hf); have hf := fa_ hO))); (repeat go_step); refine hK8 _ _ (hO.cut sb_) ?_; clear hK8 K8)
        (repeat (first | (apply inPlan_p _ rfl rfl rfl; focus (intro w8 K8 hK8; (repeat (first | go_skip | go_guarded | go_step)); exact hK8)) | (apply inPlan_s _ rfl rfl rfl; focus (intro w8 hI8 K8 hK8; obtain ⟨d0, d1⟩ := Own.immOf (φ := fun w => w.cell? ⟨zb, zo, none⟩ = some (.string ky) ∧ w.cell? ⟨zb, zo + 1, none⟩ = some (.string v)) hI8 pk_; (repeat (first | go_skip | go_guarded | go_step)); exact hK8))))
        refine inPlan_oneI rfl ?_
        (intro K8 hK8; (repeat (first | go_skip | go_guarded | go_step)); refine hK8 _ _ ((hO.alloc _ _).cut sb_) ?_; clear hK8 K8; with_reducible refine inPlan_alloc_own hO ?_; clear hO; intro w9 hO; ((try clear hf); have hf := fa_ hO))
        refine inPlan_oneI rfl ?_
        (intro K8 hK8; (repeat (first | go_skip | go_guarded | go_step)); (apply k_set_own (G := K8 _ _)); (focus (exact st_ hO)); clear hO; intro w9 hO; (try dsimp only [List.set] at hO); ((try clear hf); have hf := fa_ hO); refine hK8 _ _ (hO.cut sb_) ?_; clear hK8 K8)
        (repeat (first | (apply inPlan_p _ rfl rfl rfl; focus (intro w8 K8 hK8; (repeat (first | go_skip | go_guarded | go_step)); exact hK8)) | (apply inPlan_s _ rfl rfl rfl; focus (intro w8 hI8 K8 hK8; obtain ⟨d0, d1⟩ := Own.immOf (φ := fun w => w.cell? ⟨zb, zo, none⟩ = some (.string ky) ∧ w.cell? ⟨zb, zo + 1, none⟩ = some (.string v)) hI8 pk_; (repeat (first | go_skip | go_guarded | go_step)); exact hK8))))
        refine inPlan_done ?_
        rotate_left
        (intro K8 hK8; (repeat (first | go_skip | go_guarded | go_step)); refine hK8 _ _ ((hO.alloc _ _).cut sb_) ?_; clear hK8 K8; with_reducible refine inPlan_alloc_own hO ?_; clear hO; intro w9 hO; ((try clear hf); have hf := fa_ hO))
        refine inPlan_oneI rfl ?_
        (intro K8 hK8; (repeat (first | go_skip | go_guarded | go_step)); (go_at_call 178; (with_reducible apply Calls.mono (HMP _); rintro e7 w7 ⟨rfl, hx7⟩; replace hO := hO.ext hx7; clear hx7; dsimp only; ((try clear hf); have hf := fa_ hO))); (repeat go_step); refine hK8 _ _ (hO.cut sb_) ?_; clear hK8 K8)
        (repeat (first | (apply inPlan_p _ rfl rfl rfl; focus (intro w8 K8 hK8; (repeat (first | go_skip | go_guarded | go_step)); exact hK8)) | (apply inPlan_s _ rfl rfl rfl; focus (intro w8 hI8 K8 hK8; obtain ⟨d0, d1⟩ := Own.immOf (φ := fun w => w.cell? ⟨zb, zo, none⟩ = some (.string ky) ∧ w.cell? ⟨zb, zo + 1, none⟩ = some (.string v)) hI8 pk_; (repeat (first | go_skip | go_guarded | go_step)); exact hK8))))
        refine inPlan_oneI rfl ?_
        (intro K8 hK8; (repeat (first | go_skip | go_guarded | go_step)); (apply k_set_own (G := K8 _ _)); (focus (exact st_ hO)); clear hO; intro w9 hO; (try dsimp only [List.set] at hO); ((try clear hf); have hf := fa_ hO); refine hK8 _ _ (hO.cut sb_) ?_; clear hK8 K8)
        (repeat (first | (apply inPlan_p _ rfl rfl rfl; focus (intro w8 K8 hK8; (repeat (first | go_skip | go_guarded | go_step)); exact hK8)) | (apply inPlan_s _ rfl rfl rfl; focus (intro w8 hI8 K8 hK8; obtain ⟨d0, d1⟩ := Own.immOf (φ := fun w => w.cell? ⟨zb, zo, none⟩ = some (.string ky) ∧ w.cell? ⟨zb, zo + 1, none⟩ = some (.string v)) hI8 pk_; (repeat (first | go_skip | go_guarded | go_step)); exact hK8))))
        refine inPlan_done ?_
        rotate_left
        (intro K8 hK8; (repeat (first | go_skip | go_guarded | go_step)); refine hK8 _ _ ((hO.alloc _ _).cut sb_) ?_; clear hK8 K8; with_reducible refine inPlan_alloc_own hO ?_; clear hO; intro w9 hO; ((try clear hf); have hf := fa_ hO))
        refine inPlan_oneI rfl ?_
        (intro K8 hK8; (repeat (first | go_skip | go_guarded | go_step)); (go_at_call 179; (with_reducible apply Calls.mono (HNO _); rintro e7 w7 ⟨rfl, hx7⟩; replace hO := hO.ext hx7; clear hx7; dsimp only; ((try clear hf); have hf := fa_ hO))); (repeat go_step); refine hK8 _ _ (hO.cut sb_) ?_; clear hK8 K8)
        refine inPlan_oneI rfl ?_
        (intro K8 hK8; (repeat (first | go_skip | go_guarded | go_step)); (go_at_call 178; (with_reducible apply Calls.mono (HMP _); rintro e7 w7 ⟨rfl, hx7⟩; replace hO := hO.ext hx7; clear hx7; dsimp only; ((try clear hf); have hf := fa_ hO))); (repeat go_step); refine hK8 _ _ (hO.cut sb_) ?_; clear hK8 K8)
        (repeat (first | (apply inPlan_p _ rfl rfl rfl; focus (intro w8 K8 hK8; (repeat (first | go_skip | go_guarded | go_step)); exact hK8)) | (apply inPlan_s _ rfl rfl rfl; focus (intro w8 hI8 K8 hK8; obtain ⟨d0, d1⟩ := Own.immOf (φ := fun w => w.cell? ⟨zb, zo, none⟩ = some (.string ky) ∧ w.cell? ⟨zb, zo + 1, none⟩ = some (.string v)) hI8 pk_; (repeat (first | go_skip | go_guarded | go_step)); exact hK8))))
        refine inPlan_oneI rfl ?_
        (intro K8 hK8; (repeat (first | go_skip | go_guarded | go_step)); (apply k_set_own (G := K8 _ _)); (focus (exact st_ hO)); clear hO; intro w9 hO; (try dsimp only [List.set] at hO); ((try clear hf); have hf := fa_ hO); refine hK8 _ _ (hO.cut sb_) ?_; clear hK8 K8)
        (repeat (first | (apply inPlan_p _ rfl rfl rfl; focus (intro w8 K8 hK8; (repeat (first | go_skip | go_guarded | go_step)); exact hK8)) | (apply inPlan_s _ rfl rfl rfl; focus (intro w8 hI8 K8 hK8; obtain ⟨d0, d1⟩ := Own.immOf (φ := fun w => w.cell? ⟨zb, zo, none⟩ = some (.string ky) ∧ w.cell? ⟨zb, zo + 1, none⟩ = some (.string v)) hI8 pk_; (repeat (first | go_skip | go_guarded | go_step)); exact hK8))))
        refine inPlan_done ?_
        all_goals
          go_wp2_with (first | (go_at_call 21; (with_reducible apply Does.use hO (HP); (focus exact tk_); clear hO; intro x9 w9 hO; dsimp only at hO ⊢; simp only [CA] at hO; ((try clear hf); have hf := fa_ hO))) | (go_at_call 116; (with_reducible apply Does.use hO (HF); (focus exact tk_); clear hO; intro x9 w9 hO; dsimp only at hO ⊢; simp only [CA] at hO; ((try clear hf); have hf := fa_ hO))) | (go_at_call 169; (with_reducible apply Does.use hO (HSD); (focus exact tk_); clear hO; intro x9 w9 hO; dsimp only at hO ⊢; simp only [CA] at hO; ((try clear hf); have hf := fa_ hO))) | ((refine sy_ hO ?_); clear hO; intro w9 hO; (try dsimp only [List.set] at hO); ((try clear hf); have hf := fa_ hO)))
          all_goals try (exfalso; omega; done)
          all_goals try (exfalso; simp_all; done)
          ((refine bodyPost_run rfl fun K hK => ?_; simp [results, Tryz.results170, go_sem, hf]; refine hK _ ⟨(), ?_, ?_⟩); (focus (rw [HE.out]; rfl)); (focus (rw [HE.out]; dsimp only; (try simp only [CA]); exact hO.cut sb_)))
    | @bury _ _ _ _ n v t hL h1 hn2 hv h2 h3 h4 h5 h =>
      have HSC := rscan_does q since ra rc rows C' R' lo (hiB name) 1 _ hL (by omega) hr40 (by omega) (hL ▸ hks)
      have e1 : scnO (⟨msgB name n, v⟩ :: t) R' lo (hiB name) 1 = [⟨msgB name n, v⟩] := by unfold scnO; rw [if_pos h1]; rfl
      rw [e1, h1] at HSC
      dsimp only [List.length_cons, List.length_nil, List.flatMap_cons, List.flatMap_nil] at HSC
      have HNO : ∀ w, Calls Tryz.prog 179 #[.string (msgB name n)] w fun e w' => e = .returned (.int .i64 (n : Int)) ∧ Ext w w' := fun w => (rnumberOf_any name n w (by omega) hn2).mono fun e w' h => ⟨h.1, h.2 ▸ Ext.refl _⟩
      have HMP := fun w => rmpar_any (n : Int) v (by omega) w
      have hks2 : (msgB name n).size ≤ 300 := by rw [msgB_size]; omega
      have hkn : k ≤ n := hlo.num hn2 (List.mem_filter.1 (show (⟨msgB name n, v⟩ : Rw) ∈ inR lo (hiB name) (C'.foldl appR rows) by rw [hL]; exact List.mem_cons_self ..)).2
      have hlo2 : LoOk name (n + 1) (msgB name n ++ nul) := .inr ⟨n, hn2, rfl, rfl⟩
      have HL2 := Lib.hid hlo2
      have HM2 := Lib.hid (show measF name (msgB name n ++ nul) < measF name lo by rw [hlo.meas, hlo2.meas]; omega)
      clear hlo2
      have hmm : (msOf n v).1.num = n ∧ ¬ (msOf n v).1.bad := by
        rcases msOf_cases n v with ⟨m, hm, hmn, hmb, _⟩ | ⟨hm, _⟩
        · rw [hm]; exact ⟨hmn, hmb⟩
        · rw [hm] at h2; cases h2
      rw [h2] at HMP
      generalize (msOf n v).1 = mm at *
      obtain ⟨mn, mt, mu, mb⟩ := mm
      obtain ⟨hmn, hmb⟩ := hmm
      dsimp only at hmn
      subst hmn
      unfold Ms.v at HMP
      dsimp only at *
      have hmm : ¬ Ms.bad ⟨n, mt, mu, mb⟩ := hmb
      unfold Ms.bad at hmb
      dsimp only at hmb
      have hm1 : 0 ≤ mt ∧ mt ≤ 9 ∧ 0 ≤ mu ∧ mu ≤ 2000000 := by omega
      obtain ⟨hm1, hm2, hm3, hm4⟩ := hm1
      clear hmb
      have HI1 := HI.out.scan (⟨msgB name n, v⟩ :: t) lo (hiB name) 1
      have HIP := HI1.put (goneC name n)
      have HP := rput_does q since ra rc rows C' (scnB (⟨msgB name n, v⟩ :: t) R' lo (hiB name) 1) ⟨msgB name n, ⟨#[]⟩, true⟩ hks2 (show (0 : Nat) ≤ 1000 by omega) (by omega) HI.out.ups
      unfold Ch.v at HP
      dsimp only at HP
      have hno : putN C' ⟨msgB name n, ⟨#[]⟩, true⟩ ≠ 0 → putL C' ⟨msgB name n, ⟨#[]⟩, true⟩ = C' := fun h => putL_no h
      have hb := bury_cases (valR rows) C' (scnB (⟨msgB name n, v⟩ :: t) R' lo (hiB name) 1) name ⟨un, ut, ud⟩ ⟨n, mt, mu, mb⟩
      dsimp only at hb
      have hbok := findN_ok (y := valR rows (queB ud)) (C := putL C' (goneC name n)) (R := scnB (⟨msgB name n, v⟩ :: t) R' lo (hiB name) 1) (name := ud)
      have HF := rFind_does q since ra rc rows (putL C' (goneC name n)) (scnB (⟨msgB name n, v⟩ :: t) R' lo (hiB name) 1) ud (valR_val (fun r hr => (HS.out.ok r hr).2) _) HIP.val (by omega) (by omega) (by have := HIP.c12; omega) HIP.r40
      have HSE := fun (fu : Qu) h1 h2 h3 => rsend_does q since ra rc rows (putL C' (goneC name n)) (findR (putL C' (goneC name n)) (scnB (⟨msgB name n, v⟩ :: t) R' lo (hiB name) 1) ud) ud fu mb 0 h1 h2 h3 (by omega) (by have := HIP.c12; omega) HIP.ups
      have HI2 := Lib.hid (HI1.bury (valR rows) name ⟨un, ut, ud⟩ ⟨n, mt, mu, mb⟩)
      have HR2 := Lib.hid h
      clear h
      rw [show goneC name n = (⟨msgB name n, ⟨#[]⟩, true⟩ : Ch) from rfl] at *
      generalize scnB _ R' lo (hiB name) 1 = R2 at *
      generalize buryA (valR rows) C' R2 name ⟨un, ut, ud⟩ ⟨n, mt, mu, mb⟩ = b at *
      generalize findN (valR rows (queB ud)) (putL C' ⟨msgB name n, ⟨#[]⟩, true⟩) R2 ud = fn at *
      generalize findR (putL C' ⟨msgB name n, ⟨#[]⟩, true⟩) R2 ud = R3 at *
      generalize putL C' ⟨msgB name n, ⟨#[]⟩, true⟩ = C2 at *
      generalize putN C' ⟨msgB name n, ⟨#[]⟩, true⟩ = N at *
      obtain ⟨⟨fa, fb, fd⟩, fe⟩ := fn
      unfold Qu.v at HF HSE
      dsimp only at *
      rcases hb with ⟨hb1, rfl⟩ | ⟨hb1, hb2, rfl⟩ | ⟨hb1, hb2, hb3, rfl⟩ | ⟨hb1, hb2, hb3, rfl⟩
      · exact absurd h5 hb1
      · subst hb1
        have hde : ud = ⟨#[]⟩ := ByteArray.ext (Array.eq_empty_of_size_eq_zero hb2)
        subst hde
        clear HI1 HIP h1 h2 hL hks hlo hmm e1 HF HSE hbok hno
        dsimp only at HI2 HR2
        generalize hkk : msgB name n = ky at *
        clear hkk
        go_upto_region 7 with (first | (go_at_call 24; (with_reducible apply Does.use hO (HSC); (focus exact tk_); clear hO; intro x9 w9 hO; dsimp only at hO ⊢; simp only [CA] at hO; ((try clear hf); have hf := fa_ hO); (obtain ⟨za, zc⟩ := x9; dsimp only at hO ⊢; ((try clear hf); have hf := fa_ hO)))) | ((refine sy_ hO ?_); clear hO; intro w9 hO; (try dsimp only [List.set] at hO); ((try clear hf); have hf := fa_ hO)))
        obtain ⟨zb, zo, rfl⟩ := rw_some (a := za) (l := [⟨ky, v⟩]) (i := 0) (hO.immOf (φ := fun w => ValsAt w za ([⟨ky, v⟩].flatMap rwC)) pk_) (by simp)
        have hO := (hO.pick (r := .imm fun w => ValsAt w (some ⟨zb, zo, none⟩) ([⟨ky, v⟩].flatMap rwC)) pk_).imp (ψ := fun w => w.cell? ⟨zb, zo, none⟩ = some (.string ky) ∧ w.cell? ⟨zb, zo + 1, none⟩ = some (.string v)) fun w h => by
          have := rw_cells (l := [⟨ky, v⟩]) (i := 0) h (by simp)
          simpa using this
        ((try clear hf); have hf := fa_ hO)
        refine wp_region_planI (fun w8 => Own S W w8 (.imm (fun w => w.cell? ⟨zb, zo, none⟩ = some (.string ky) ∧ w.cell? ⟨zb, zo + 1, none⟩ = some (.string v)) :: L0)) (fun _ _ h hx => h.ext hx) (hO.cut sb_) [0, 1, 2, 5, 6, 7, 10, 11, 12, 15, 1003, 1008] (.pure 0 <| .pure 1 <| .pure 2 <| .see 3 <| .pure 5 <| .pure 6 <| .pure 7 <| .see 8 <| .fork 4 (.fork 9 (.pure 10 <| .pure 11 <| .pure 12 <| .one 13 <| .one 14 <| .pure 15 .done) 13 (.one 9 <| .pure 10 <| .pure 11 <| .pure 12 <| .one 14 <| .pure 15 .done)) 13 (.one 4 <| .one 9 <| .pure 10 <| .pure 11 <| .pure 12 <| .one 14 <| .pure 15 .done)) (by kernel_rfl) (by kernel_rfl) (fun _ _ d _ _ h => by cases d <;> exact h) ?_
        intro w9 hx9
        replace hO := hO.ext hx9
        clear hx9
        ((try clear hf); have hf := fa_ hO)
        (repeat (first | (apply inPlan_p _ rfl rfl rfl; focus (intro w8 K8 hK8; (repeat (first | go_skip | go_guarded | go_step)); exact hK8)) | (apply inPlan_s _ rfl rfl rfl; focus (intro w8 hI8 K8 hK8; obtain ⟨d0, d1⟩ := Own.immOf (φ := fun w => w.cell? ⟨zb, zo, none⟩ = some (.string ky) ∧ w.cell? ⟨zb, zo + 1, none⟩ = some (.string v)) hI8 pk_; (repeat (first | go_skip | go_guarded | go_step)); exact hK8))))
        refine inPlan_forkI rfl rfl ?_ ?_
        (intro K8 hK8; (repeat (first | go_skip | go_guarded | go_step)); (go_at_call 179; (with_reducible apply Calls.mono (HNO _); rintro e7 w7 ⟨rfl, hx7⟩; replace hO := hO.ext hx7; clear hx7; dsimp only; ((try clear hf); have hf := fa_ hO))); (repeat go_step); refine hK8 _ _ (hO.cut sb_) ?_; clear hK8 K8)
        refine inPlan_forkI rfl rfl ?_ ?_
        (intro K8 hK8; (repeat (first | go_skip | go_guarded | go_step)); (go_at_call 178; (with_reducible apply Calls.mono (HMP _); rintro e7 w7 ⟨rfl, hx7⟩; replace hO := hO.ext hx7; clear hx7; dsimp only; ((try clear hf); have hf := fa_ hO))); (repeat go_step); refine hK8 _ _ (hO.cut sb_) ?_; clear hK8 K8)
        (repeat (first | (apply inPlan_p _ rfl rfl rfl; focus (intro w8 K8 hK8; (repeat (first | go_skip | go_guarded | go_step)); exact hK8)) | (apply inPlan_s _ rfl rfl rfl; focus (intro w8 hI8 K8 hK8; obtain ⟨d0, d1⟩ := Own.immOf (φ := fun w => w.cell? ⟨zb, zo, none⟩ = some (.string ky) ∧ w.cell? ⟨zb, zo + 1, none⟩ = some (.string v)) hI8 pk_; (repeat (first | go_skip | go_guarded | go_step)); exact hK8))))
        refine inPlan_oneI rfl ?_
        (intro K8 hK8; (repeat (first | go_skip | go_guarded | go_step)); refine hK8 _ _ ((hO.alloc _ _).cut sb_) ?_; clear hK8 K8; with_reducible refine inPlan_alloc_own hO ?_; clear hO; intro w9 hO; ((try clear hf); have hf := fa_ hO))
        refine inPlan_oneI rfl ?_
        (intro K8 hK8; (repeat (first | go_skip | go_guarded | go_step)); (apply k_set_own (G := K8 _ _)); (focus (exact st_ hO)); clear hO; intro w9 hO; (try dsimp only [List.set] at hO); ((try clear hf); have hf := fa_ hO); refine hK8 _ _ (hO.cut sb_) ?_; clear hK8 K8)
        (repeat (first | (apply inPlan_p _ rfl rfl rfl; focus (intro w8 K8 hK8; (repeat (first | go_skip | go_guarded | go_step)); exact hK8)) | (apply inPlan_s _ rfl rfl rfl; focus (intro w8 hI8 K8 hK8; obtain ⟨d0, d1⟩ := Own.immOf (φ := fun w => w.cell? ⟨zb, zo, none⟩ = some (.string ky) ∧ w.cell? ⟨zb, zo + 1, none⟩ = some (.string v)) hI8 pk_; (repeat (first | go_skip | go_guarded | go_step)); exact hK8))))
        refine inPlan_done ?_
        rotate_left
        (intro K8 hK8; (repeat (first | go_skip | go_guarded | go_step)); refine hK8 _ _ ((hO.alloc _ _).cut sb_) ?_; clear hK8 K8; with_reducible refine inPlan_alloc_own hO ?_; clear hO; intro w9 hO; ((try clear hf); have hf := fa_ hO))
        refine inPlan_oneI rfl ?_
        (intro K8 hK8; (repeat (first | go_skip | go_guarded | go_step)); (go_at_call 178; (with_reducible apply Calls.mono (HMP _); rintro e7 w7 ⟨rfl, hx7⟩; replace hO := hO.ext hx7; clear hx7; dsimp only; ((try clear hf); have hf := fa_ hO))); (repeat go_step); refine hK8 _ _ (hO.cut sb_) ?_; clear hK8 K8)
        (repeat (first | (apply inPlan_p _ rfl rfl rfl; focus (intro w8 K8 hK8; (repeat (first | go_skip | go_guarded | go_step)); exact hK8)) | (apply inPlan_s _ rfl rfl rfl; focus (intro w8 hI8 K8 hK8; obtain ⟨d0, d1⟩ := Own.immOf (φ := fun w => w.cell? ⟨zb, zo, none⟩ = some (.string ky) ∧ w.cell? ⟨zb, zo + 1, none⟩ = some (.string v)) hI8 pk_; (repeat (first | go_skip | go_guarded | go_step)); exact hK8))))
        refine inPlan_oneI rfl ?_
        (intro K8 hK8; (repeat (first | go_skip | go_guarded | go_step)); (apply k_set_own (G := K8 _ _)); (focus (exact st_ hO)); clear hO; intro w9 hO; (try dsimp only [List.set] at hO); ((try clear hf); have hf := fa_ hO); refine hK8 _ _ (hO.cut sb_) ?_; clear hK8 K8)
        (repeat (first | (apply inPlan_p _ rfl rfl rfl; focus (intro w8 K8 hK8; (repeat (first | go_skip | go_guarded | go_step)); exact hK8)) | (apply inPlan_s _ rfl rfl rfl; focus (intro w8 hI8 K8 hK8; obtain ⟨d0, d1⟩ := Own.immOf (φ := fun w => w.cell? ⟨zb, zo, none⟩ = some (.string ky) ∧ w.cell? ⟨zb, zo + 1, none⟩ = some (.string v)) hI8 pk_; (repeat (first | go_skip | go_guarded | go_step)); exact hK8))))
        refine inPlan_done ?_
        rotate_left
        (intro K8 hK8; (repeat (first | go_skip | go_guarded | go_step)); refine hK8 _ _ ((hO.alloc _ _).cut sb_) ?_; clear hK8 K8; with_reducible refine inPlan_alloc_own hO ?_; clear hO; intro w9 hO; ((try clear hf); have hf := fa_ hO))
        refine inPlan_oneI rfl ?_
        (intro K8 hK8; (repeat (first | go_skip | go_guarded | go_step)); (go_at_call 179; (with_reducible apply Calls.mono (HNO _); rintro e7 w7 ⟨rfl, hx7⟩; replace hO := hO.ext hx7; clear hx7; dsimp only; ((try clear hf); have hf := fa_ hO))); (repeat go_step); refine hK8 _ _ (hO.cut sb_) ?_; clear hK8 K8)
        refine inPlan_oneI rfl ?_
        (intro K8 hK8; (repeat (first | go_skip | go_guarded | go_step)); (go_at_call 178; (with_reducible apply Calls.mono (HMP _); rintro e7 w7 ⟨rfl, hx7⟩; replace hO := hO.ext hx7; clear hx7; dsimp only; ((try clear hf); have hf := fa_ hO))); (repeat go_step); refine hK8 _ _ (hO.cut sb_) ?_; clear hK8 K8)
        (repeat (first | (apply inPlan_p _ rfl rfl rfl; focus (intro w8 K8 hK8; (repeat (first | go_skip | go_guarded | go_step)); exact hK8)) | (apply inPlan_s _ rfl rfl rfl; focus (intro w8 hI8 K8 hK8; obtain ⟨d0, d1⟩ := Own.immOf (φ := fun w => w.cell? ⟨zb, zo, none⟩ = some (.string ky) ∧ w.cell? ⟨zb, zo + 1, none⟩ = some (.string v)) hI8 pk_; (repeat (first | go_skip | go_guarded | go_step)); exact hK8))))
        refine inPlan_oneI rfl ?_
        (intro K8 hK8; (repeat (first | go_skip | go_guarded | go_step)); (apply k_set_own (G := K8 _ _)); (focus (exact st_ hO)); clear hO; intro w9 hO; (try dsimp only [List.set] at hO); ((try clear hf); have hf := fa_ hO); refine hK8 _ _ (hO.cut sb_) ?_; clear hK8 K8)
        (repeat (first | (apply inPlan_p _ rfl rfl rfl; focus (intro w8 K8 hK8; (repeat (first | go_skip | go_guarded | go_step)); exact hK8)) | (apply inPlan_s _ rfl rfl rfl; focus (intro w8 hI8 K8 hK8; obtain ⟨d0, d1⟩ := Own.immOf (φ := fun w => w.cell? ⟨zb, zo, none⟩ = some (.string ky) ∧ w.cell? ⟨zb, zo + 1, none⟩ = some (.string v)) hI8 pk_; (repeat (first | go_skip | go_guarded | go_step)); exact hK8))))
        refine inPlan_done ?_
        all_goals
          go_wp2_with (first | (go_at_call 21; (with_reducible apply Does.use hO (HP); (focus exact tk_); clear hO; intro x9 w9 hO; dsimp only at hO ⊢; simp only [CA] at hO; ((try clear hf); have hf := fa_ hO))) | ((refine sy_ hO ?_); clear hO; intro w9 hO; (try dsimp only [List.set] at hO); ((try clear hf); have hf := fa_ hO)))
          all_goals try (exfalso; omega; done)
          rw [show (⟨#[0]⟩ : ByteArray) = nul from rfl] at hO
          exact ⟨⟨C2, R2, ky ++ nul, HI2, Lib.hid ⟨n + 1, HL2.out, HR2.out⟩, by (try simp only [CA]); exact hO.cut sb_⟩, by rw [cellS_eq (hO.factOf (r := Var g [.string (ky ++ nul), .string (hiB name)] 49) pk_)]; exact Nat.lt_of_lt_of_le HM2.out (Nat.le_of_eq HC.out.symm)⟩
      · exact absurd h5 hb3
      · subst hb1 hb3
        obtain ⟨g0, g1, g2, _, _⟩ := hbok rfl
        have HSD := HSE ⟨fa, fb, fd⟩ g0 g1 (show fd.size ≤ 50 by omega)
        obtain ⟨ne1, ne2, ne3, ne4⟩ := no_sp hb2
        clear HI1 HIP h1 h2 hL hks hlo hmm e1 HSE hbok g0 g1 g2 hno
        dsimp only at HSD h5 HI2 HR2
        generalize sendA C2 ud ⟨fa, fb, fd⟩ mb 0 = sr at *
        obtain ⟨s1, s2, s3⟩ := sr
        dsimp only at HSD h5 HI2 HR2
        subst h5
        generalize hkk : msgB name n = ky at *
        clear hkk
        go_upto_region 7 with (first | (go_at_call 24; (with_reducible apply Does.use hO (HSC); (focus exact tk_); clear hO; intro x9 w9 hO; dsimp only at hO ⊢; simp only [CA] at hO; ((try clear hf); have hf := fa_ hO); (obtain ⟨za, zc⟩ := x9; dsimp only at hO ⊢; ((try clear hf); have hf := fa_ hO)))) | ((refine sy_ hO ?_); clear hO; intro w9 hO; (try dsimp only [List.set] at hO); ((try clear hf); have hf := fa_ hO)))
        obtain ⟨zb, zo, rfl⟩ := rw_some (a := za) (l := [⟨ky, v⟩]) (i := 0) (hO.immOf (φ := fun w => ValsAt w za ([⟨ky, v⟩].flatMap rwC)) pk_) (by simp)
        have hO := (hO.pick (r := .imm fun w => ValsAt w (some ⟨zb, zo, none⟩) ([⟨ky, v⟩].flatMap rwC)) pk_).imp (ψ := fun w => w.cell? ⟨zb, zo, none⟩ = some (.string ky) ∧ w.cell? ⟨zb, zo + 1, none⟩ = some (.string v)) fun w h => by
          have := rw_cells (l := [⟨ky, v⟩]) (i := 0) h (by simp)
          simpa using this
        ((try clear hf); have hf := fa_ hO)
        refine wp_region_planI (fun w8 => Own S W w8 (.imm (fun w => w.cell? ⟨zb, zo, none⟩ = some (.string ky) ∧ w.cell? ⟨zb, zo + 1, none⟩ = some (.string v)) :: L0)) (fun _ _ h hx => h.ext hx) (hO.cut sb_) [0, 1, 2, 5, 6, 7, 10, 11, 12, 15, 1003, 1008] (.pure 0 <| .pure 1 <| .pure 2 <| .see 3 <| .pure 5 <| .pure 6 <| .pure 7 <| .see 8 <| .fork 4 (.fork 9 (.pure 10 <| .pure 11 <| .pure 12 <| .one 13 <| .one 14 <| .pure 15 .done) 13 (.one 9 <| .pure 10 <| .pure 11 <| .pure 12 <| .one 14 <| .pure 15 .done)) 13 (.one 4 <| .one 9 <| .pure 10 <| .pure 11 <| .pure 12 <| .one 14 <| .pure 15 .done)) (by kernel_rfl) (by kernel_rfl) (fun _ _ d _ _ h => by cases d <;> exact h) ?_
        intro w9 hx9
        replace hO := hO.ext hx9
        clear hx9
        ((try clear hf); have hf := fa_ hO)
        (repeat (first | (apply inPlan_p _ rfl rfl rfl; focus (intro w8 K8 hK8; (repeat (first | go_skip | go_guarded | go_step)); exact hK8)) | (apply inPlan_s _ rfl rfl rfl; focus (intro w8 hI8 K8 hK8; obtain ⟨d0, d1⟩ := Own.immOf (φ := fun w => w.cell? ⟨zb, zo, none⟩ = some (.string ky) ∧ w.cell? ⟨zb, zo + 1, none⟩ = some (.string v)) hI8 pk_; (repeat (first | go_skip | go_guarded | go_step)); exact hK8))))
        refine inPlan_forkI rfl rfl ?_ ?_
        (intro K8 hK8; (repeat (first | go_skip | go_guarded | go_step)); (go_at_call 179; (with_reducible apply Calls.mono (HNO _); rintro e7 w7 ⟨rfl, hx7⟩; replace hO := hO.ext hx7; clear hx7; dsimp only; ((try clear hf); have hf := fa_ hO))); (repeat go_step); refine hK8 _ _ (hO.cut sb_) ?_; clear hK8 K8)
        refine inPlan_forkI rfl rfl ?_ ?_
        (intro K8 hK8; (repeat (first | go_skip | go_guarded | go_step)); (go_at_call 178; (with_reducible apply Calls.mono (HMP _); rintro e7 w7 ⟨rfl, hx7⟩; replace hO := hO.ext hx7; clear hx7; dsimp only; ((try clear hf); have hf := fa_ hO))); (repeat go_step); refine hK8 _ _ (hO.cut sb_) ?_; clear hK8 K8)
        (repeat (first | (apply inPlan_p _ rfl rfl rfl; focus (intro w8 K8 hK8; (repeat (first | go_skip | go_guarded | go_step)); exact hK8)) | (apply inPlan_s _ rfl rfl rfl; focus (intro w8 hI8 K8 hK8; obtain ⟨d0, d1⟩ := Own.immOf (φ := fun w => w.cell? ⟨zb, zo, none⟩ = some (.string ky) ∧ w.cell? ⟨zb, zo + 1, none⟩ = some (.string v)) hI8 pk_; (repeat (first | go_skip | go_guarded | go_step)); exact hK8))))
        refine inPlan_oneI rfl ?_
        (intro K8 hK8; (repeat (first | go_skip | go_guarded | go_step)); refine hK8 _ _ ((hO.alloc _ _).cut sb_) ?_; clear hK8 K8; with_reducible refine inPlan_alloc_own hO ?_; clear hO; intro w9 hO; ((try clear hf); have hf := fa_ hO))
        refine inPlan_oneI rfl ?_
        (intro K8 hK8; (repeat (first | go_skip | go_guarded | go_step)); (apply k_set_own (G := K8 _ _)); (focus (exact st_ hO)); clear hO; intro w9 hO; (try dsimp only [List.set] at hO); ((try clear hf); have hf := fa_ hO); refine hK8 _ _ (hO.cut sb_) ?_; clear hK8 K8)
        (repeat (first | (apply inPlan_p _ rfl rfl rfl; focus (intro w8 K8 hK8; (repeat (first | go_skip | go_guarded | go_step)); exact hK8)) | (apply inPlan_s _ rfl rfl rfl; focus (intro w8 hI8 K8 hK8; obtain ⟨d0, d1⟩ := Own.immOf (φ := fun w => w.cell? ⟨zb, zo, none⟩ = some (.string ky) ∧ w.cell? ⟨zb, zo + 1, none⟩ = some (.string v)) hI8 pk_; (repeat (first | go_skip | go_guarded | go_step)); exact hK8))))
        refine inPlan_done ?_
        rotate_left
        (intro K8 hK8; (repeat (first | go_skip | go_guarded | go_step)); refine hK8 _ _ ((hO.alloc _ _).cut sb_) ?_; clear hK8 K8; with_reducible refine inPlan_alloc_own hO ?_; clear hO; intro w9 hO; ((try clear hf); have hf := fa_ hO))
        refine inPlan_oneI rfl ?_
        (intro K8 hK8; (repeat (first | go_skip | go_guarded | go_step)); (go_at_call 178; (with_reducible apply Calls.mono (HMP _); rintro e7 w7 ⟨rfl, hx7⟩; replace hO := hO.ext hx7; clear hx7; dsimp only; ((try clear hf); have hf := fa_ hO))); (repeat go_step); refine hK8 _ _ (hO.cut sb_) ?_; clear hK8 K8)
        (repeat (first | (apply inPlan_p _ rfl rfl rfl; focus (intro w8 K8 hK8; (repeat (first | go_skip | go_guarded | go_step)); exact hK8)) | (apply inPlan_s _ rfl rfl rfl; focus (intro w8 hI8 K8 hK8; obtain ⟨d0, d1⟩ := Own.immOf (φ := fun w => w.cell? ⟨zb, zo, none⟩ = some (.string ky) ∧ w.cell? ⟨zb, zo + 1, none⟩ = some (.string v)) hI8 pk_; (repeat (first | go_skip | go_guarded | go_step)); exact hK8))))
        refine inPlan_oneI rfl ?_
        (intro K8 hK8; (repeat (first | go_skip | go_guarded | go_step)); (apply k_set_own (G := K8 _ _)); (focus (exact st_ hO)); clear hO; intro w9 hO; (try dsimp only [List.set] at hO); ((try clear hf); have hf := fa_ hO); refine hK8 _ _ (hO.cut sb_) ?_; clear hK8 K8)
        (repeat (first | (apply inPlan_p _ rfl rfl rfl; focus (intro w8 K8 hK8; (repeat (first | go_skip | go_guarded | go_step)); exact hK8)) | (apply inPlan_s _ rfl rfl rfl; focus (intro w8 hI8 K8 hK8; obtain ⟨d0, d1⟩ := Own.immOf (φ := fun w => w.cell? ⟨zb, zo, none⟩ = some (.string ky) ∧ w.cell? ⟨zb, zo + 1, none⟩ = some (.string v)) hI8 pk_; (repeat (first | go_skip | go_guarded | go_step)); exact hK8))))
        refine inPlan_done ?_
        rotate_left
        (intro K8 hK8; (repeat (first | go_skip | go_guarded | go_step)); refine hK8 _ _ ((hO.alloc _ _).cut sb_) ?_; clear hK8 K8; with_reducible refine inPlan_alloc_own hO ?_; clear hO; intro w9 hO; ((try clear hf); have hf := fa_ hO))
        refine inPlan_oneI rfl ?_
        (intro K8 hK8; (repeat (first | go_skip | go_guarded | go_step)); (go_at_call 179; (with_reducible apply Calls.mono (HNO _); rintro e7 w7 ⟨rfl, hx7⟩; replace hO := hO.ext hx7; clear hx7; dsimp only; ((try clear hf); have hf := fa_ hO))); (repeat go_step); refine hK8 _ _ (hO.cut sb_) ?_; clear hK8 K8)
        refine inPlan_oneI rfl ?_
        (intro K8 hK8; (repeat (first | go_skip | go_guarded | go_step)); (go_at_call 178; (with_reducible apply Calls.mono (HMP _); rintro e7 w7 ⟨rfl, hx7⟩; replace hO := hO.ext hx7; clear hx7; dsimp only; ((try clear hf); have hf := fa_ hO))); (repeat go_step); refine hK8 _ _ (hO.cut sb_) ?_; clear hK8 K8)
        (repeat (first | (apply inPlan_p _ rfl rfl rfl; focus (intro w8 K8 hK8; (repeat (first | go_skip | go_guarded | go_step)); exact hK8)) | (apply inPlan_s _ rfl rfl rfl; focus (intro w8 hI8 K8 hK8; obtain ⟨d0, d1⟩ := Own.immOf (φ := fun w => w.cell? ⟨zb, zo, none⟩ = some (.string ky) ∧ w.cell? ⟨zb, zo + 1, none⟩ = some (.string v)) hI8 pk_; (repeat (first | go_skip | go_guarded | go_step)); exact hK8))))
        refine inPlan_oneI rfl ?_
        (intro K8 hK8; (repeat (first | go_skip | go_guarded | go_step)); (apply k_set_own (G := K8 _ _)); (focus (exact st_ hO)); clear hO; intro w9 hO; (try dsimp only [List.set] at hO); ((try clear hf); have hf := fa_ hO); refine hK8 _ _ (hO.cut sb_) ?_; clear hK8 K8)
        (repeat (first | (apply inPlan_p _ rfl rfl rfl; focus (intro w8 K8 hK8; (repeat (first | go_skip | go_guarded | go_step)); exact hK8)) | (apply inPlan_s _ rfl rfl rfl; focus (intro w8 hI8 K8 hK8; obtain ⟨d0, d1⟩ := Own.immOf (φ := fun w => w.cell? ⟨zb, zo, none⟩ = some (.string ky) ∧ w.cell? ⟨zb, zo + 1, none⟩ = some (.string v)) hI8 pk_; (repeat (first | go_skip | go_guarded | go_step)); exact hK8))))
        refine inPlan_done ?_
        all_goals
          go_wp2_with (first | (go_at_call 21; (with_reducible apply Does.use hO (HP); (focus exact tk_); clear hO; intro x9 w9 hO; dsimp only at hO ⊢; simp only [CA] at hO; ((try clear hf); have hf := fa_ hO))) | (go_at_call 116; (with_reducible apply Does.use hO (HF); (focus exact tk_); clear hO; intro x9 w9 hO; dsimp only at hO ⊢; simp only [CA] at hO; ((try clear hf); have hf := fa_ hO))) | (go_at_call 169; (with_reducible apply Does.use hO (HSD); (focus exact tk_); clear hO; intro x9 w9 hO; dsimp only at hO ⊢; simp only [CA] at hO; ((try clear hf); have hf := fa_ hO))) | ((refine sy_ hO ?_); clear hO; intro w9 hO; (try dsimp only [List.set] at hO); ((try clear hf); have hf := fa_ hO)))
          all_goals try (exfalso; omega; done)
          all_goals try (exfalso; simp_all; done)
          rw [show (⟨#[0]⟩ : ByteArray) = nul from rfl] at hO
          exact ⟨⟨s3, R3, ky ++ nul, HI2, Lib.hid ⟨n + 1, HL2.out, HR2.out⟩, by (try simp only [CA]); exact hO.cut sb_⟩, by rw [cellS_eq (hO.factOf (r := Var g [.string (ky ++ nul), .string (hiB name)] 49) pk_)]; exact Nat.lt_of_lt_of_le HM2.out (Nat.le_of_eq HC.out.symm)⟩
    | @take _ _ _ _ n v t hL h1 hn2 hv h2 h3 h4 e =>
      have HSC := rscan_does q since ra rc rows C' R' lo (hiB name) 1 _ hL (by omega) hr40 (by omega) (hL ▸ hks)
      have e1 : scnO (⟨msgB name n, v⟩ :: t) R' lo (hiB name) 1 = [⟨msgB name n, v⟩] := by unfold scnO; rw [if_pos h1]; rfl
      rw [e1, h1] at HSC
      dsimp only [List.length_cons, List.length_nil, List.flatMap_cons, List.flatMap_nil] at HSC
      have HNO : ∀ w, Calls Tryz.prog 179 #[.string (msgB name n)] w fun e w' => e = .returned (.int .i64 (n : Int)) ∧ Ext w w' := fun w => (rnumberOf_any name n w (by omega) hn2).mono fun e w' h => ⟨h.1, h.2 ▸ Ext.refl _⟩
      have HMP := fun w => rmpar_any (n : Int) v (by omega) w
      have hks2 : (msgB name n).size ≤ 300 := by rw [msgB_size]; omega
      have hkn : k ≤ n := hlo.num hn2 (List.mem_filter.1 (show (⟨msgB name n, v⟩ : Rw) ∈ inR lo (hiB name) (C'.foldl appR rows) by rw [hL]; exact List.mem_cons_self ..)).2
      have hlo2 : LoOk name (n + 1) (msgB name n ++ nul) := .inr ⟨n, hn2, rfl, rfl⟩
      have HL2 := Lib.hid hlo2
      have HM2 := Lib.hid (show measF name (msgB name n ++ nul) < measF name lo by rw [hlo.meas, hlo2.meas]; omega)
      clear hlo2
      have hmm : (msOf n v).1.num = n ∧ ¬ (msOf n v).1.bad := by
        rcases msOf_cases n v with ⟨m, hm, hmn, hmb, _⟩ | ⟨hm, _⟩
        · rw [hm]; exact ⟨hmn, hmb⟩
        · rw [hm] at h2; cases h2
      rw [h2] at HMP
      generalize (msOf n v).1 = mm at *
      obtain ⟨mn, mt, mu, mb⟩ := mm
      obtain ⟨hmn, hmb⟩ := hmm
      dsimp only at hmn
      subst hmn
      unfold Ms.v at HMP
      dsimp only at *
      have hmm : ¬ Ms.bad ⟨n, mt, mu, mb⟩ := hmb
      unfold Ms.bad at hmb
      dsimp only at hmb
      have hm1 : 0 ≤ mt ∧ mt ≤ 9 ∧ 0 ≤ mu ∧ mu ≤ 2000000 := by omega
      obtain ⟨hm1, hm2, hm3, hm4⟩ := hm1
      clear hmb
      have HMT := fun w => rmtxt_any ((⟨n, mt, mu, mb⟩ : Ms).more (now + long)) w
      have hts := ((⟨n, mt, mu, mb⟩ : Ms).more (now + long)).txt_size
      unfold setN setL at e
      unfold Ms.more at *
      generalize hmt : Ms.txt ⟨(n : Int), mt + 1, now + long, mb⟩ = tx at *
      clear hmt
      obtain ⟨t1, t2⟩ := tx
      unfold Ms.v at HMT
      dsimp only at HMT hts e
      rw [show ((n : Nat) : Int).toNat = n from rfl] at e
      have HP := rput_does q since ra rc rows C' (scnB (⟨msgB name n, v⟩ :: t) R' lo (hiB name) 1) ⟨msgB name n, t1, false⟩ hks2 (show t1.size ≤ 1000 by omega) (by omega) HI.out.ups
      unfold Ch.v at HP
      dsimp only at HP
      generalize scnB _ R' lo (hiB name) 1 = R2 at *
      generalize putL C' ⟨msgB name n, t1, false⟩ = C2 at *
      generalize putN C' ⟨msgB name n, t1, false⟩ = N at *
      clear h1 h2 hL hks hlo hmm e1 HC
      by_cases h8 : t2 ≠ 0
      · rw [if_pos h8, if_pos h8] at e
        have HE := Lib.hid e
        clear HP e
        generalize hkk : msgB name n = ky at *
        clear hkk
        go_upto_region 7 with (first | (go_at_call 24; (with_reducible apply Does.use hO (HSC); (focus exact tk_); clear hO; intro x9 w9 hO; dsimp only at hO ⊢; simp only [CA] at hO; ((try clear hf); have hf := fa_ hO); (obtain ⟨za, zc⟩ := x9; dsimp only at hO ⊢; ((try clear hf); have hf := fa_ hO)))) | ((refine sy_ hO ?_); clear hO; intro w9 hO; (try dsimp only [List.set] at hO); ((try clear hf); have hf := fa_ hO)))
        obtain ⟨zb, zo, rfl⟩ := rw_some (a := za) (l := [⟨ky, v⟩]) (i := 0) (hO.immOf (φ := fun w => ValsAt w za ([⟨ky, v⟩].flatMap rwC)) pk_) (by simp)
        have hO := (hO.pick (r := .imm fun w => ValsAt w (some ⟨zb, zo, none⟩) ([⟨ky, v⟩].flatMap rwC)) pk_).imp (ψ := fun w => w.cell? ⟨zb, zo, none⟩ = some (.string ky) ∧ w.cell? ⟨zb, zo + 1, none⟩ = some (.string v)) fun w h => by
          have := rw_cells (l := [⟨ky, v⟩]) (i := 0) h (by simp)
          simpa using this
        ((try clear hf); have hf := fa_ hO)
        refine wp_region_planI (fun w8 => Own S W w8 (.imm (fun w => w.cell? ⟨zb, zo, none⟩ = some (.string ky) ∧ w.cell? ⟨zb, zo + 1, none⟩ = some (.string v)) :: L0)) (fun _ _ h hx => h.ext hx) (hO.cut sb_) [0, 1, 2, 5, 6, 7, 10, 11, 12, 15, 1003, 1008] (.pure 0 <| .pure 1 <| .pure 2 <| .see 3 <| .pure 5 <| .pure 6 <| .pure 7 <| .see 8 <| .fork 4 (.fork 9 (.pure 10 <| .pure 11 <| .pure 12 <| .one 13 <| .one 14 <| .pure 15 .done) 13 (.one 9 <| .pure 10 <| .pure 11 <| .pure 12 <| .one 14 <| .pure 15 .done)) 13 (.one 4 <| .one 9 <| .pure 10 <| .pure 11 <| .pure 12 <| .one 14 <| .pure 15 .done)) (by kernel_rfl) (by kernel_rfl) (fun _ _ d _ _ h => by cases d <;> exact h) ?_
        intro w9 hx9
        replace hO := hO.ext hx9
        clear hx9
        ((try clear hf); have hf := fa_ hO)
        (repeat (first | (apply inPlan_p _ rfl rfl rfl; focus (intro w8 K8 hK8; (repeat (first | go_skip | go_guarded | go_step)); exact hK8)) | (apply inPlan_s _ rfl rfl rfl; focus (intro w8 hI8 K8 hK8; obtain ⟨d0, d1⟩ := Own.immOf (φ := fun w => w.cell? ⟨zb, zo, none⟩ = some (.string ky) ∧ w.cell? ⟨zb, zo + 1, none⟩ = some (.string v)) hI8 pk_; (repeat (first | go_skip | go_guarded | go_step)); exact hK8))))
        refine inPlan_forkI rfl rfl ?_ ?_
        (intro K8 hK8; (repeat (first | go_skip | go_guarded | go_step)); (go_at_call 179; (with_reducible apply Calls.mono (HNO _); rintro e7 w7 ⟨rfl, hx7⟩; replace hO := hO.ext hx7; clear hx7; dsimp only; ((try clear hf); have hf := fa_ hO))); (repeat go_step); refine hK8 _ _ (hO.cut sb_) ?_; clear hK8 K8)
        refine inPlan_forkI rfl rfl ?_ ?_
        (intro K8 hK8; (repeat (first | go_skip | go_guarded | go_step)); (go_at_call 178; (with_reducible apply Calls.mono (HMP _); rintro e7 w7 ⟨rfl, hx7⟩; replace hO := hO.ext hx7; clear hx7; dsimp only; ((try clear hf); have hf := fa_ hO))); (repeat go_step); refine hK8 _ _ (hO.cut sb_) ?_; clear hK8 K8)
        (repeat (first | (apply inPlan_p _ rfl rfl rfl; focus (intro w8 K8 hK8; (repeat (first | go_skip | go_guarded | go_step)); exact hK8)) | (apply inPlan_s _ rfl rfl rfl; focus (intro w8 hI8 K8 hK8; obtain ⟨d0, d1⟩ := Own.immOf (φ := fun w => w.cell? ⟨zb, zo, none⟩ = some (.string ky) ∧ w.cell? ⟨zb, zo + 1, none⟩ = some (.string v)) hI8 pk_; (repeat (first | go_skip | go_guarded | go_step)); exact hK8))))
        refine inPlan_oneI rfl ?_
        (intro K8 hK8; (repeat (first | go_skip | go_guarded | go_step)); refine hK8 _ _ ((hO.alloc _ _).cut sb_) ?_; clear hK8 K8; with_reducible refine inPlan_alloc_own hO ?_; clear hO; intro w9 hO; ((try clear hf); have hf := fa_ hO))
        refine inPlan_oneI rfl ?_
        (intro K8 hK8; (repeat (first | go_skip | go_guarded | go_step)); (apply k_set_own (G := K8 _ _)); (focus (exact st_ hO)); clear hO; intro w9 hO; (try dsimp only [List.set] at hO); ((try clear hf); have hf := fa_ hO); refine hK8 _ _ (hO.cut sb_) ?_; clear hK8 K8)
        (repeat (first | (apply inPlan_p _ rfl rfl rfl; focus (intro w8 K8 hK8; (repeat (first | go_skip | go_guarded | go_step)); exact hK8)) | (apply inPlan_s _ rfl rfl rfl; focus (intro w8 hI8 K8 hK8; obtain ⟨d0, d1⟩ := Own.immOf (φ := fun w => w.cell? ⟨zb, zo, none⟩ = some (.string ky) ∧ w.cell? ⟨zb, zo + 1, none⟩ = some (.string v)) hI8 pk_; (repeat (first | go_skip | go_guarded | go_step)); exact hK8))))
        refine inPlan_done ?_
        rotate_left
        (intro K8 hK8; (repeat (first | go_skip | go_guarded | go_step)); refine hK8 _ _ ((hO.alloc _ _).cut sb_) ?_; clear hK8 K8; with_reducible refine inPlan_alloc_own hO ?_; clear hO; intro w9 hO; ((try clear hf); have hf := fa_ hO))
        refine inPlan_oneI rfl ?_
        (intro K8 hK8; (repeat (first | go_skip | go_guarded | go_step)); (go_at_call 178; (with_reducible apply Calls.mono (HMP _); rintro e7 w7 ⟨rfl, hx7⟩; replace hO := hO.ext hx7; clear hx7; dsimp only; ((try clear hf); have hf := fa_ hO))); (repeat go_step); refine hK8 _ _ (hO.cut sb_) ?_; clear hK8 K8)
        (repeat (first | (apply inPlan_p _ rfl rfl rfl; focus (intro w8 K8 hK8; (repeat (first | go_skip | go_guarded | go_step)); exact hK8)) | (apply inPlan_s _ rfl rfl rfl; focus (intro w8 hI8 K8 hK8; obtain ⟨d0, d1⟩ := Own.immOf (φ := fun w => w.cell? ⟨zb, zo, none⟩ = some (.string ky) ∧ w.cell? ⟨zb, zo + 1, none⟩ = some (.string v)) hI8 pk_; (repeat (first | go_skip | go_guarded | go_step)); exact hK8))))
        refine inPlan_oneI rfl ?_
        (intro K8 hK8; (repeat (first | go_skip | go_guarded | go_step)); (apply k_set_own (G := K8 _ _)); (focus (exact st_ hO)); clear hO; intro w9 hO; (try dsimp only [List.set] at hO); ((try clear hf); have hf := fa_ hO); refine hK8 _ _ (hO.cut sb_) ?_; clear hK8 K8)
        (repeat (first | (apply inPlan_p _ rfl rfl rfl; focus (intro w8 K8 hK8; (repeat (first | go_skip | go_guarded | go_step)); exact hK8)) | (apply inPlan_s _ rfl rfl rfl; focus (intro w8 hI8 K8 hK8; obtain ⟨d0, d1⟩ := Own.immOf (φ := fun w => w.cell? ⟨zb, zo, none⟩ = some (.string ky) ∧ w.cell? ⟨zb, zo + 1, none⟩ = some (.string v)) hI8 pk_; (repeat (first | go_skip | go_guarded | go_step)); exact hK8))))
        refine inPlan_done ?_
        rotate_left
        (intro K8 hK8; (repeat (first | go_skip | go_guarded | go_step)); refine hK8 _ _ ((hO.alloc _ _).cut sb_) ?_; clear hK8 K8; with_reducible refine inPlan_alloc_own hO ?_; clear hO; intro w9 hO; ((try clear hf); have hf := fa_ hO))
        refine inPlan_oneI rfl ?_
        (intro K8 hK8; (repeat (first | go_skip | go_guarded | go_step)); (go_at_call 179; (with_reducible apply Calls.mono (HNO _); rintro e7 w7 ⟨rfl, hx7⟩; replace hO := hO.ext hx7; clear hx7; dsimp only; ((try clear hf); have hf := fa_ hO))); (repeat go_step); refine hK8 _ _ (hO.cut sb_) ?_; clear hK8 K8)
        refine inPlan_oneI rfl ?_
        (intro K8 hK8; (repeat (first | go_skip | go_guarded | go_step)); (go_at_call 178; (with_reducible apply Calls.mono (HMP _); rintro e7 w7 ⟨rfl, hx7⟩; replace hO := hO.ext hx7; clear hx7; dsimp only; ((try clear hf); have hf := fa_ hO))); (repeat go_step); refine hK8 _ _ (hO.cut sb_) ?_; clear hK8 K8)
        (repeat (first | (apply inPlan_p _ rfl rfl rfl; focus (intro w8 K8 hK8; (repeat (first | go_skip | go_guarded | go_step)); exact hK8)) | (apply inPlan_s _ rfl rfl rfl; focus (intro w8 hI8 K8 hK8; obtain ⟨d0, d1⟩ := Own.immOf (φ := fun w => w.cell? ⟨zb, zo, none⟩ = some (.string ky) ∧ w.cell? ⟨zb, zo + 1, none⟩ = some (.string v)) hI8 pk_; (repeat (first | go_skip | go_guarded | go_step)); exact hK8))))
        refine inPlan_oneI rfl ?_
        (intro K8 hK8; (repeat (first | go_skip | go_guarded | go_step)); (apply k_set_own (G := K8 _ _)); (focus (exact st_ hO)); clear hO; intro w9 hO; (try dsimp only [List.set] at hO); ((try clear hf); have hf := fa_ hO); refine hK8 _ _ (hO.cut sb_) ?_; clear hK8 K8)
        (repeat (first | (apply inPlan_p _ rfl rfl rfl; focus (intro w8 K8 hK8; (repeat (first | go_skip | go_guarded | go_step)); exact hK8)) | (apply inPlan_s _ rfl rfl rfl; focus (intro w8 hI8 K8 hK8; obtain ⟨d0, d1⟩ := Own.immOf (φ := fun w => w.cell? ⟨zb, zo, none⟩ = some (.string ky) ∧ w.cell? ⟨zb, zo + 1, none⟩ = some (.string v)) hI8 pk_; (repeat (first | go_skip | go_guarded | go_step)); exact hK8))))
        refine inPlan_done ?_
        all_goals
          go_wp2_with (first | (go_at_call 173; (with_reducible apply Calls.mono (HMT _); rintro e8 w8 ⟨rfl, hx8⟩; replace hO := hO.ext hx8; clear hx8; dsimp only; ((try clear hf); have hf := fa_ hO))) | ((refine sy_ hO ?_); clear hO; intro w9 hO; (try dsimp only [List.set] at hO); ((try clear hf); have hf := fa_ hO)))
          all_goals try (exfalso; omega; done)
          ((refine bodyPost_run rfl fun K hK => ?_; simp [results, Tryz.results170, go_sem, hf]; refine hK _ ⟨(), ?_, ?_⟩); (focus (rw [HE.out]; rfl)); (focus (rw [HE.out]; dsimp only; (try simp only [CA]); exact hO.cut sb_)))
      · obtain rfl : t2 = 0 := by omega
        rw [if_neg h8, if_neg h8] at e
        have HE := Lib.hid e
        clear h8 e
        generalize hkk : msgB name n = ky at *
        clear hkk
        go_upto_region 7 with (first | (go_at_call 24; (with_reducible apply Does.use hO (HSC); (focus exact tk_); clear hO; intro x9 w9 hO; dsimp only at hO ⊢; simp only [CA] at hO; ((try clear hf); have hf := fa_ hO); (obtain ⟨za, zc⟩ := x9; dsimp only at hO ⊢; ((try clear hf); have hf := fa_ hO)))) | ((refine sy_ hO ?_); clear hO; intro w9 hO; (try dsimp only [List.set] at hO); ((try clear hf); have hf := fa_ hO)))
        obtain ⟨zb, zo, rfl⟩ := rw_some (a := za) (l := [⟨ky, v⟩]) (i := 0) (hO.immOf (φ := fun w => ValsAt w za ([⟨ky, v⟩].flatMap rwC)) pk_) (by simp)
        have hO := (hO.pick (r := .imm fun w => ValsAt w (some ⟨zb, zo, none⟩) ([⟨ky, v⟩].flatMap rwC)) pk_).imp (ψ := fun w => w.cell? ⟨zb, zo, none⟩ = some (.string ky) ∧ w.cell? ⟨zb, zo + 1, none⟩ = some (.string v)) fun w h => by
          have := rw_cells (l := [⟨ky, v⟩]) (i := 0) h (by simp)
          simpa using this
        ((try clear hf); have hf := fa_ hO)
        refine wp_region_planI (fun w8 => Own S W w8 (.imm (fun w => w.cell? ⟨zb, zo, none⟩ = some (.string ky) ∧ w.cell? ⟨zb, zo + 1, none⟩ = some (.string v)) :: L0)) (fun _ _ h hx => h.ext hx) (hO.cut sb_) [0, 1, 2, 5, 6, 7, 10, 11, 12, 15, 1003, 1008] (.pure 0 <| .pure 1 <| .pure 2 <| .see 3 <| .pure 5 <| .pure 6 <| .pure 7 <| .see 8 <| .fork 4 (.fork 9 (.pure 10 <| .pure 11 <| .pure 12 <| .one 13 <| .one 14 <| .pure 15 .done) 13 (.one 9 <| .pure 10 <| .pure 11 <| .pure 12 <| .one 14 <| .pure 15 .done)) 13 (.one 4 <| .one 9 <| .pure 10 <| .pure 11 <| .pure 12 <| .one 14 <| .pure 15 .done)) (by kernel_rfl) (by kernel_rfl) (fun _ _ d _ _ h => by cases d <;> exact h) ?_
        intro w9 hx9
        replace hO := hO.ext hx9
        clear hx9
        ((try clear hf); have hf := fa_ hO)
        (repeat (first | (apply inPlan_p _ rfl rfl rfl; focus (intro w8 K8 hK8; (repeat (first | go_skip | go_guarded | go_step)); exact hK8)) | (apply inPlan_s _ rfl rfl rfl; focus (intro w8 hI8 K8 hK8; obtain ⟨d0, d1⟩ := Own.immOf (φ := fun w => w.cell? ⟨zb, zo, none⟩ = some (.string ky) ∧ w.cell? ⟨zb, zo + 1, none⟩ = some (.string v)) hI8 pk_; (repeat (first | go_skip | go_guarded | go_step)); exact hK8))))
        refine inPlan_forkI rfl rfl ?_ ?_
        (intro K8 hK8; (repeat (first | go_skip | go_guarded | go_step)); (go_at_call 179; (with_reducible apply Calls.mono (HNO _); rintro e7 w7 ⟨rfl, hx7⟩; replace hO := hO.ext hx7; clear hx7; dsimp only; ((try clear hf); have hf := fa_ hO))); (repeat go_step); refine hK8 _ _ (hO.cut sb_) ?_; clear hK8 K8)
        refine inPlan_forkI rfl rfl ?_ ?_
        (intro K8 hK8; (repeat (first | go_skip | go_guarded | go_step)); (go_at_call 178; (with_reducible apply Calls.mono (HMP _); rintro e7 w7 ⟨rfl, hx7⟩; replace hO := hO.ext hx7; clear hx7; dsimp only; ((try clear hf); have hf := fa_ hO))); (repeat go_step); refine hK8 _ _ (hO.cut sb_) ?_; clear hK8 K8)
        (repeat (first | (apply inPlan_p _ rfl rfl rfl; focus (intro w8 K8 hK8; (repeat (first | go_skip | go_guarded | go_step)); exact hK8)) | (apply inPlan_s _ rfl rfl rfl; focus (intro w8 hI8 K8 hK8; obtain ⟨d0, d1⟩ := Own.immOf (φ := fun w => w.cell? ⟨zb, zo, none⟩ = some (.string ky) ∧ w.cell? ⟨zb, zo + 1, none⟩ = some (.string v)) hI8 pk_; (repeat (first | go_skip | go_guarded | go_step)); exact hK8))))
        refine inPlan_oneI rfl ?_
        (intro K8 hK8; (repeat (first | go_skip | go_guarded | go_step)); refine hK8 _ _ ((hO.alloc _ _).cut sb_) ?_; clear hK8 K8; with_reducible refine inPlan_alloc_own hO ?_; clear hO; intro w9 hO; ((try clear hf); have hf := fa_ hO))
        refine inPlan_oneI rfl ?_
        (intro K8 hK8; (repeat (first | go_skip | go_guarded | go_step)); (apply k_set_own (G := K8 _ _)); (focus (exact st_ hO)); clear hO; intro w9 hO; (try dsimp only [List.set] at hO); ((try clear hf); have hf := fa_ hO); refine hK8 _ _ (hO.cut sb_) ?_; clear hK8 K8)
        (repeat (first | (apply inPlan_p _ rfl rfl rfl; focus (intro w8 K8 hK8; (repeat (first | go_skip | go_guarded | go_step)); exact hK8)) | (apply inPlan_s _ rfl rfl rfl; focus (intro w8 hI8 K8 hK8; obtain ⟨d0, d1⟩ := Own.immOf (φ := fun w => w.cell? ⟨zb, zo, none⟩ = some (.string ky) ∧ w.cell? ⟨zb, zo + 1, none⟩ = some (.string v)) hI8 pk_; (repeat (first | go_skip | go_guarded | go_step)); exact hK8))))
        refine inPlan_done ?_
        rotate_left
        (intro K8 hK8; (repeat (first | go_skip | go_guarded | go_step)); refine hK8 _ _ ((hO.alloc _ _).cut sb_) ?_; clear hK8 K8; with_reducible refine inPlan_alloc_own hO ?_; clear hO; intro w9 hO; ((try clear hf); have hf := fa_ hO))
        refine inPlan_oneI rfl ?_
        (intro K8 hK8; (repeat (first | go_skip | go_guarded | go_step)); (go_at_call 178; (with_reducible apply Calls.mono (HMP _); rintro e7 w7 ⟨rfl, hx7⟩; replace hO := hO.ext hx7; clear hx7; dsimp only; ((try clear hf); have hf := fa_ hO))); (repeat go_step); refine hK8 _ _ (hO.cut sb_) ?_; clear hK8 K8)
        (repeat (first | (apply inPlan_p _ rfl rfl rfl; focus (intro w8 K8 hK8; (repeat (first | go_skip | go_guarded | go_step)); exact hK8)) | (apply inPlan_s _ rfl rfl rfl; focus (intro w8 hI8 K8 hK8; obtain ⟨d0, d1⟩ := Own.immOf (φ := fun w => w.cell? ⟨zb, zo, none⟩ = some (.string ky) ∧ w.cell? ⟨zb, zo + 1, none⟩ = some (.string v)) hI8 pk_; (repeat (first | go_skip | go_guarded | go_step)); exact hK8))))
        refine inPlan_oneI rfl ?_
        (intro K8 hK8; (repeat (first | go_skip | go_guarded | go_step)); (apply k_set_own (G := K8 _ _)); (focus (exact st_ hO)); clear hO; intro w9 hO; (try dsimp only [List.set] at hO); ((try clear hf); have hf := fa_ hO); refine hK8 _ _ (hO.cut sb_) ?_; clear hK8 K8)
        (repeat (first | (apply inPlan_p _ rfl rfl rfl; focus (intro w8 K8 hK8; (repeat (first | go_skip | go_guarded | go_step)); exact hK8)) | (apply inPlan_s _ rfl rfl rfl; focus (intro w8 hI8 K8 hK8; obtain ⟨d0, d1⟩ := Own.immOf (φ := fun w => w.cell? ⟨zb, zo, none⟩ = some (.string ky) ∧ w.cell? ⟨zb, zo + 1, none⟩ = some (.string v)) hI8 pk_; (repeat (first | go_skip | go_guarded | go_step)); exact hK8))))
        refine inPlan_done ?_
        rotate_left
        (intro K8 hK8; (repeat (first | go_skip | go_guarded | go_step)); refine hK8 _ _ ((hO.alloc _ _).cut sb_) ?_; clear hK8 K8; with_reducible refine inPlan_alloc_own hO ?_; clear hO; intro w9 hO; ((try clear hf); have hf := fa_ hO))
        refine inPlan_oneI rfl ?_
        (intro K8 hK8; (repeat (first | go_skip | go_guarded | go_step)); (go_at_call 179; (with_reducible apply Calls.mono (HNO _); rintro e7 w7 ⟨rfl, hx7⟩; replace hO := hO.ext hx7; clear hx7; dsimp only; ((try clear hf); have hf := fa_ hO))); (repeat go_step); refine hK8 _ _ (hO.cut sb_) ?_; clear hK8 K8)
        refine inPlan_oneI rfl ?_
        (intro K8 hK8; (repeat (first | go_skip | go_guarded | go_step)); (go_at_call 178; (with_reducible apply Calls.mono (HMP _); rintro e7 w7 ⟨rfl, hx7⟩; replace hO := hO.ext hx7; clear hx7; dsimp only; ((try clear hf); have hf := fa_ hO))); (repeat go_step); refine hK8 _ _ (hO.cut sb_) ?_; clear hK8 K8)
        (repeat (first | (apply inPlan_p _ rfl rfl rfl; focus (intro w8 K8 hK8; (repeat (first | go_skip | go_guarded | go_step)); exact hK8)) | (apply inPlan_s _ rfl rfl rfl; focus (intro w8 hI8 K8 hK8; obtain ⟨d0, d1⟩ := Own.immOf (φ := fun w => w.cell? ⟨zb, zo, none⟩ = some (.string ky) ∧ w.cell? ⟨zb, zo + 1, none⟩ = some (.string v)) hI8 pk_; (repeat (first | go_skip | go_guarded | go_step)); exact hK8))))
        refine inPlan_oneI rfl ?_
        (intro K8 hK8; (repeat (first | go_skip | go_guarded | go_step)); (apply k_set_own (G := K8 _ _)); (focus (exact st_ hO)); clear hO; intro w9 hO; (try dsimp only [List.set] at hO); ((try clear hf); have hf := fa_ hO); refine hK8 _ _ (hO.cut sb_) ?_; clear hK8 K8)
        (repeat (first | (apply inPlan_p _ rfl rfl rfl; focus (intro w8 K8 hK8; (repeat (first | go_skip | go_guarded | go_step)); exact hK8)) | (apply inPlan_s _ rfl rfl rfl; focus (intro w8 hI8 K8 hK8; obtain ⟨d0, d1⟩ := Own.immOf (φ := fun w => w.cell? ⟨zb, zo, none⟩ = some (.string ky) ∧ w.cell? ⟨zb, zo + 1, none⟩ = some (.string v)) hI8 pk_; (repeat (first | go_skip | go_guarded | go_step)); exact hK8))))
        refine inPlan_done ?_
        all_goals
          go_wp2_with (first | (go_at_call 173; (with_reducible apply Calls.mono (HMT _); rintro e8 w8 ⟨rfl, hx8⟩; replace hO := hO.ext hx8; clear hx8; dsimp only; ((try clear hf); have hf := fa_ hO))) | (go_at_call 21; (with_reducible apply Does.use hO (HP); (focus exact tk_); clear hO; intro x9 w9 hO; dsimp only at hO ⊢; simp only [CA] at hO; ((try clear hf); have hf := fa_ hO))) | ((refine sy_ hO ?_); clear hO; intro w9 hO; (try dsimp only [List.set] at hO); ((try clear hf); have hf := fa_ hO)))
          all_goals try (exfalso; omega; done)
          ((refine bodyPost_run rfl fun K hK => ?_; simp [results, Tryz.results170, go_sem, hf]; refine hK _ ⟨(), ?_, ?_⟩); (focus (rw [HE.out]; rfl)); (focus (rw [HE.out]; dsimp only; (try simp only [CA]); exact hO.cut sb_)))
end Go.Proofs.YtmknhibaoopjjaaGreatDoor
namespace Go.Proofs.YtmknhibaoopjjaaGreatDoor
open Go.RowKit
theorem timeN_pair (a b : Int) : timeN [a, b] = if (badT a || badT b) = true then 1 else 0 := by unfold timeN; rw [List.any_cons, List.any_cons]; simp
set_option maxHeartbeats 8000000 in
set_option maxRecDepth 100000 in
theorem rReceive_does (q since : Nat) (ra : Option Addr) (rc : Nat) (rows : List Rw) (hs : QRows rows) (C : List Ch) (R : List Sp) (name : ByteArray) (now long : Int) (res : Ms × Nat × List Ch × List Sp)
    (hr : RecvAns rows C R name now long res) (hI : QInv C R) (hk : name.size ≤ 200) :
    Does Tryz.prog 112 #[.pointer (some ⟨q, 0, none⟩), .string name, .int .i64 now, .int .i64 long] [RViewR q since ra rc rows C R]
      (fun _ : Unit => (.tuple #[res.1.v, .int .i64 res.2.1], [RViewR q since ra rc rows res.2.2.1 res.2.2.2])) := by
  have hc12 := hI.c12
  have hrl := hs.len
  have HF := rFind_does q since ra rc rows C R name (valR_val (fun r hr => (hs.ok r hr).2) _) hI.val hk (by omega) (by omega) hI.r40
  have HT1 := fun w => badTime_any now w
  have HT2 := fun w => badTime_any long w
  have hok := findN_ok (y := valR rows (queB name)) (C := C) (R := R) (name := name)
  have hRC := fun (u : Qu) r h1 h2 h3 h4 h5 h6 h7 => rreceive_does q since ra rc rows hs C (findR C R name) name u now long r h1 (hI.find name) h2 h3 h4 h5 h6 h7
  unfold Qu.v at HF
  have htp := timeN_pair now long
  cases hr with
  | nofind h e =>
    subst e
    generalize findN (valR rows (queB name)) C R name = f at *
    generalize findR C R name = R' at *
    obtain ⟨⟨un, ut, ud⟩, f2⟩ := f
    unfold Ms.v Ms.z
    dsimp only at HF h ⊢
    clear hRC hok HT1 HT2 hs hI htp
    intro S W w L0 hO; simp only [CA] at hO
    ((try clear hf); have hf := fa_ hO)
    go_enter Tryz.func112, Tryz.ntmps112
    go_wp2_with (first | (go_at_call 116; (with_reducible apply Does.use hO (HF); (focus exact tk_); clear hO; intro x9 w9 hO; dsimp only at hO ⊢; simp only [CA] at hO; ((try clear hf); have hf := fa_ hO))) | ((refine sy_ hO ?_); clear hO; intro w9 hO; (try dsimp only [List.set] at hO); ((try clear hf); have hf := fa_ hO)))
    all_goals try (exfalso; omega; done)
    ((refine bodyPost_run rfl fun K hK => ?_; simp [results, Tryz.results112, go_sem, hf]; refine hK _ ⟨(), ?_, ?_⟩); (focus rfl); (focus ((try simp only [CA]); exact hO.cut sb_)))
  | notime h0 h e =>
    subst e
    generalize findN (valR rows (queB name)) C R name = f at *
    generalize findR C R name = R' at *
    obtain ⟨⟨un, ut, ud⟩, f2⟩ := f
    unfold Ms.v Ms.z
    dsimp only at HF h0 ⊢
    subst h0
    rw [htp] at h
    clear hRC hok hs hI htp
    cases hb1 : badT now <;> cases hb2 : badT long <;> rw [hb1] at HT1 h <;> rw [hb2] at HT2 h
    · exact absurd rfl h
    all_goals
      clear h
      intro S W w L0 hO; simp only [CA] at hO
      ((try clear hf); have hf := fa_ hO)
      go_enter Tryz.func112, Tryz.ntmps112
      go_wp2_with (first | (go_at_call 116; (with_reducible apply Does.use hO (HF); (focus exact tk_); clear hO; intro x9 w9 hO; dsimp only at hO ⊢; simp only [CA] at hO; ((try clear hf); have hf := fa_ hO))) | (go_at_call 168; (first | (with_reducible apply Calls.mono (HT1 _); rintro e8 w8 ⟨rfl, rfl⟩; dsimp only) | (with_reducible apply Calls.mono (HT2 _); rintro e8 w8 ⟨rfl, rfl⟩; dsimp only))) | ((refine sy_ hO ?_); clear hO; intro w9 hO; (try dsimp only [List.set] at hO); ((try clear hf); have hf := fa_ hO)))
      ((refine bodyPost_run rfl fun K hK => ?_; simp [results, Tryz.results112, go_sem, hf]; refine hK _ ⟨(), ?_, ?_⟩); (focus rfl); (focus ((try simp only [CA]); exact hO.cut sb_)))
  | @fail r h0 ht hr hb e =>
    subst e
    obtain ⟨_, _, hd, _, hn⟩ := hok h0
    obtain ⟨t0, t1, t2, t3⟩ := timeN_two ht
    have HRC := hRC _ r hr hn hd t0 t1 t2 t3
    rw [ht] at htp
    have hb12 : badT now = false ∧ badT long = false := by
      cases hb1 : badT now <;> cases hb2 : badT long <;> rw [hb1, hb2] at htp
      · exact ⟨rfl, rfl⟩
      all_goals cases htp
    rw [hb12.1] at HT1
    rw [hb12.2] at HT2
    clear hRC hok hs hI hr hd hn htp hb12 t0 t1 t2 t3
    generalize findN (valR rows (queB name)) C R name = f at *
    generalize findR C R name = R' at *
    obtain ⟨⟨un, ut, ud⟩, f2⟩ := f
    obtain ⟨⟨m1, m2, m3, m4⟩, sn, sc, sr⟩ := r
    unfold Qu.v Ms.v at HRC
    unfold Ms.v Ms.z
    dsimp only at HF h0 hb HRC ⊢
    subst h0
    clear ht
    intro S W w L0 hO; simp only [CA] at hO
    ((try clear hf); have hf := fa_ hO)
    go_enter Tryz.func112, Tryz.ntmps112
    go_upto_region 8 with (first | (go_at_call 116; (with_reducible apply Does.use hO (HF); (focus exact tk_); clear hO; intro x9 w9 hO; dsimp only at hO ⊢; simp only [CA] at hO; ((try clear hf); have hf := fa_ hO))) | (go_at_call 168; (first | (with_reducible apply Calls.mono (HT1 _); rintro e8 w8 ⟨rfl, rfl⟩; dsimp only) | (with_reducible apply Calls.mono (HT2 _); rintro e8 w8 ⟨rfl, rfl⟩; dsimp only))) | ((refine sy_ hO ?_); clear hO; intro w9 hO; (try dsimp only [List.set] at hO); ((try clear hf); have hf := fa_ hO)))
    obtain ⟨ca, cc, sa, sc0, hO⟩ := hO.ofRView (C := C) (R := R') pk_
    have hO := (hO.pick (r := .imm fun w => ChAt w ca C) pk_).again
    ((try clear hf); have hf := fa_ hO)
    go_upto_region 9 with (((refine sy_ hO ?_); clear hO; intro w9 hO; (try dsimp only [List.set] at hO); ((try clear hf); have hf := fa_ hO)))
    have hO := hO.toRView (ca := ca) (cc := cc) (sa := sa) (sc := sc0) (C := C) (R := R') tk_
    ((try clear hf); have hf := fa_ hO)
    go_upto_region 11 with (first | (go_at_call 170; (with_reducible apply Does.use hO (HRC); (focus exact tk_); clear hO; intro x9 w9 hO; dsimp only at hO ⊢; simp only [CA] at hO; ((try clear hf); have hf := fa_ hO))) | ((refine sy_ hO ?_); clear hO; intro w9 hO; (try dsimp only [List.set] at hO); ((try clear hf); have hf := fa_ hO)))
    all_goals try (exfalso; omega; done)
    obtain ⟨ca2, cc2, sa2, sc2, hO⟩ := hO.ofRView (C := sc) (R := sr) pk_
    ((try clear hf); have hf := fa_ hO)
    go_wp2_with (first | ((refine sy_ hO ?_); clear hO; intro w9 hO; (try dsimp only [List.set] at hO); ((try clear hf); have hf := fa_ hO)))
    have hO := hO.toRView (ca := ca) (cc := cc) (sa := sa2) (sc := sc2) (C := C) (R := sr) tk_
    ((refine bodyPost_run rfl fun K hK => ?_; simp [results, Tryz.results112, go_sem, hf]; refine hK _ ⟨(), ?_, ?_⟩); (focus rfl); (focus ((try simp only [CA]); exact hO.cut sb_)))
  | done h0 ht hr hb =>
    obtain ⟨_, _, hd, _, hn⟩ := hok h0
    obtain ⟨t0, t1, t2, t3⟩ := timeN_two ht
    have HRC := hRC _ res hr hn hd t0 t1 t2 t3
    rw [ht] at htp
    have hb12 : badT now = false ∧ badT long = false := by
      cases hb1 : badT now <;> cases hb2 : badT long <;> rw [hb1, hb2] at htp
      · exact ⟨rfl, rfl⟩
      all_goals cases htp
    rw [hb12.1] at HT1
    rw [hb12.2] at HT2
    clear hRC hok hs hI hr hd hn htp hb12 t0 t1 t2 t3
    generalize findN (valR rows (queB name)) C R name = f at *
    generalize findR C R name = R' at *
    obtain ⟨⟨un, ut, ud⟩, f2⟩ := f
    obtain ⟨⟨m1, m2, m3, m4⟩, sn, sc, sr⟩ := res
    unfold Qu.v Ms.v at HRC
    unfold Ms.v
    dsimp only at HF h0 hb HRC ⊢
    subst h0 hb
    clear ht
    intro S W w L0 hO; simp only [CA] at hO
    ((try clear hf); have hf := fa_ hO)
    go_enter Tryz.func112, Tryz.ntmps112
    go_upto_region 8 with (first | (go_at_call 116; (with_reducible apply Does.use hO (HF); (focus exact tk_); clear hO; intro x9 w9 hO; dsimp only at hO ⊢; simp only [CA] at hO; ((try clear hf); have hf := fa_ hO))) | (go_at_call 168; (first | (with_reducible apply Calls.mono (HT1 _); rintro e8 w8 ⟨rfl, rfl⟩; dsimp only) | (with_reducible apply Calls.mono (HT2 _); rintro e8 w8 ⟨rfl, rfl⟩; dsimp only))) | ((refine sy_ hO ?_); clear hO; intro w9 hO; (try dsimp only [List.set] at hO); ((try clear hf); have hf := fa_ hO)))
    obtain ⟨ca, cc, sa, sc0, hO⟩ := hO.ofRView (C := C) (R := R') pk_
    have hO := (hO.pick (r := .imm fun w => ChAt w ca C) pk_).again
    ((try clear hf); have hf := fa_ hO)
    go_upto_region 9 with (((refine sy_ hO ?_); clear hO; intro w9 hO; (try dsimp only [List.set] at hO); ((try clear hf); have hf := fa_ hO)))
    have hO := hO.toRView (ca := ca) (cc := cc) (sa := sa) (sc := sc0) (C := C) (R := R') tk_
    ((try clear hf); have hf := fa_ hO)
    go_wp2_with (first | (go_at_call 170; (with_reducible apply Does.use hO (HRC); (focus exact tk_); clear hO; intro x9 w9 hO; dsimp only at hO ⊢; simp only [CA] at hO; ((try clear hf); have hf := fa_ hO))) | ((refine sy_ hO ?_); clear hO; intro w9 hO; (try dsimp only [List.set] at hO); ((try clear hf); have hf := fa_ hO)))
    ((refine bodyPost_run rfl fun K hK => ?_; simp [results, Tryz.results112, go_sem, hf]; refine hK _ ⟨(), ?_, ?_⟩); (focus rfl); (focus ((try simp only [CA]); exact hO.cut sb_)))
end Go.Proofs.YtmknhibaoopjjaaGreatDoor
namespace Go.Proofs.YtmknhibaoopjjaaGreatDoor
open Go.RowKit
/-- Messages of the first rows. -/
noncomputable def msG (O : List Rw) (j : Nat) : List Ms := (O.take j).map fun r => (msR r).1
theorem msG_len {O : List Rw} {j : Nat} (h : j ≤ O.length) : (msG O j).length = j := by unfold msG; rw [List.length_map, List.length_take]; omega
theorem msG_next {O : List Rw} {j : Nat} (h : j < O.length) : msG O (j + 1) = msG O j ++ [(msR O[j]).1] := by
  unfold msG; rw [List.take_succ_eq_append_getElem h, List.map_append]; rfl
theorem msG_all {O : List Rw} : msG O O.length = O.map fun r => (msR r).1 := by unfold msG; rw [List.take_length]
theorem okG_next {O : List Rw} {j : Nat} (h : j < O.length) (h1 : ∀ r ∈ O.take j, (msR r).2 = 0) (h2 : (msR O[j]).2 = 0) : ∀ r ∈ O.take (j + 1), (msR r).2 = 0 := fun r hr => by
  rw [List.take_succ_eq_append_getElem h] at hr
  rcases List.mem_append.1 hr with hr | hr
  · exact h1 r hr
  · rw [List.mem_singleton.1 hr]; exact h2
theorem msR_msg {name k v : ByteArray} {n : Nat} (hn : n < 1000000) (hk : k = msgB name n) : msR ⟨k, v⟩ = msOf (n : Int) v := by
  unfold msR; rw [hk]; dsimp only; rw [numO_msg name hn]
set_option maxHeartbeats 16000000 in
set_option maxRecDepth 100000 in
theorem qMessages_does (q p since nn : Nat) (V : List (ByteArray × List Vn)) (rows : List Rw) (hs : Seen V since rows) (C : List Ch) (R : List Sp) (name : ByteArray) (hI : QInv C R) (hk : name.size ≤ 200) {φ : World → Prop} (hφ : ∀ w, φ w → LibOk w) :
    Does Tryz.prog 57 #[.pointer (some ⟨q, 0, none⟩), .string name] [ViewR q p since C R, VerR p nn V, .imm φ]
      (fun x : Option Addr × Nat => (.tuple #[.slice x.1 (msgsA rows C R name).1.length x.2, errV (msgsA rows C R name).2.1], [ViewR q p since C (msgsA rows C R name).2.2, VerR p nn V, .imm φ, Row2 104 4 x.1 (msgsA rows C R name).1.length x.2 ((msgsA rows C R name).1.flatMap msC)])) := by
  obtain ⟨iM, hiM, hzM, hsM, hbM⟩ := info_parts Tryz.infoMs
  have hc12 := hI.c12
  have HF := qFind_does q p since nn V C R name _ (hs.rd _) (hs.val _) hI.val hk (by omega) hI.ups hI.r40 hs.v6 hφ
  have HMS := fun w => messages_any name w (by omega)
  have hr2 := (hI.find name).r40
  have HSC := vwScan_does q p since nn V C (findR C R name) (loB name) (hiB name) 53 _ (hs.scan C (loB name) (hiB name)) hs.nd (by omega) hr2 hs.vl hs.v1 (seen_keys hs.qr hI (loB name) (hiB name))
  have hok := findN_ok (y := valR rows (queB name)) (C := C) (R := R) (name := name)
  have hMR := fun h => msgRows (name := name) hs.qr hI h
  have hhs : (hiB name).size = name.size + 3 := by
    unfold hiB
    simp only [ByteArray.size_append]
    show 1 + 1 + name.size + 1 = _
    omega
  have hhs1 := Nat.le_of_eq hhs
  have hhs2 := Nat.le_of_eq hhs.symm
  clear hhs
  unfold msgsA
  unfold Qu.v at HF
  generalize hLL : inR (loB name) (hiB name) (C.foldl appR rows) = L at *
  have hLn : L.length ≤ 1012 := by
    rw [← hLL]
    exact Nat.le_trans (List.length_filter_le _ _) (Nat.le_trans (apps_len C rows) (by have := hs.qr.len; omega))
  clear hLL
  generalize findN (valR rows (queB name)) C R name = f at *
  generalize findR C R name = R1 at *
  generalize hiB name = hi at *
  generalize loB name = lo at *
  obtain ⟨⟨un, ut, ud⟩, f2⟩ := f
  dsimp only at HF hok ⊢
  clear hs hI
  rcases errV_or f2 with ⟨h0, e⟩ | ⟨M, h0, e⟩
  · rw [e] at HF
    rw [if_neg (by omega)]
    have hMR := hMR (hok h0).2.2.2.2
    clear hok e h0
    by_cases h1 : scnN L R1 lo hi 53 ≠ 0
    · rw [if_pos h1]
      have e1 : scnO L R1 lo hi 53 = [] := by unfold scnO; rw [if_neg h1]
      rw [e1] at HSC
      dsimp only [List.length_nil, List.flatMap_nil] at HSC ⊢
      generalize scnB L R1 lo hi 53 = R2 at *
      rcases errV_or (scnN L R1 lo hi 53) with ⟨h0, e⟩ | ⟨M, h0, e⟩
      · exact absurd h0 h1
      · rw [e] at HSC ⊢
        clear e h0 h1 e1 hMR
        intro S W w L0 hO; simp only [CA] at hO
        ((try clear hf); have hf := fa_ hO)
        go_enter Tryz.func57, Tryz.ntmps57
        go_wp2_with (first | (go_at_call 115; (with_reducible apply Does.use hO (HF); (focus exact tk_); clear hO; intro x9 w9 hO; dsimp only at hO ⊢; simp only [CA] at hO; ((try clear hf); have hf := fa_ hO))) | (go_at_call 132; (with_reducible apply Calls.mono (HMS _); rintro e8 w8 ⟨rfl, hx8⟩; replace hO := hO.ext hx8; clear hx8; dsimp only; ((try clear hf); have hf := fa_ hO))) | (go_at_call 23; (with_reducible apply Does.use hO (HSC); (focus exact tk_); clear hO; intro x9 w9 hO; dsimp only at hO ⊢; simp only [CA] at hO; ((try clear hf); have hf := fa_ hO); (obtain ⟨oa, oc⟩ := x9; dsimp only at hO ⊢; ((try clear hf); have hf := fa_ hO)))) | ((refine sy_ hO ?_); clear hO; intro w9 hO; (try dsimp only [List.set] at hO); ((try clear hf); have hf := fa_ hO)))
        have hO := hO.nil 104 4
        go_ret2
        refine ⟨(none, 0), rfl, ?_⟩
        simp only [List.length_nil, List.flatMap_nil]
        (try simp only [CA])
        exact hO.cut sb_
    · have h1 : scnN L R1 lo hi 53 = 0 := by omega
      rw [if_neg (by omega)]
      have e1 : scnO L R1 lo hi 53 = L.take 53 := by unfold scnO; rw [if_pos h1]; rfl
      rw [e1, h1, show errV 0 = .nilIface from rfl] at HSC
      have hMO := hMR.take 53
      have hOl : (L.take 53).length ≤ 53 := by rw [List.length_take]; omega
      generalize scnB L R1 lo hi 53 = R2 at *
      generalize L.take 53 = O at *
      clear e1 h1 hMR hLn
      have HMO := Lib.hid hMO
      clear hMO
      generalize hyy : (if msgsN O ≠ 0 then (([] : List Ms), 4, R2) else (O.map (fun r => (msR r).1), 0, R2)) = y
      have HY := Lib.hid hyy.symm
      clear hyy
      intro S W w L0 hO; simp only [CA] at hO
      ((try clear hf); have hf := fa_ hO)
      go_enter Tryz.func57, Tryz.ntmps57
      go_wp2_with (first | (go_at_call 115; (with_reducible apply Does.use hO (HF); (focus exact tk_); clear hO; intro x9 w9 hO; dsimp only at hO ⊢; simp only [CA] at hO; ((try clear hf); have hf := fa_ hO))) | (go_at_call 132; (with_reducible apply Calls.mono (HMS _); rintro e8 w8 ⟨rfl, hx8⟩; replace hO := hO.ext hx8; clear hx8; dsimp only; ((try clear hf); have hf := fa_ hO))) | (go_at_call 23; (with_reducible apply Does.use hO (HSC); (focus exact tk_); clear hO; intro x9 w9 hO; dsimp only at hO ⊢; simp only [CA] at hO; ((try clear hf); have hf := fa_ hO); (obtain ⟨oa, oc⟩ := x9; dsimp only at hO ⊢; ((try clear hf); have hf := fa_ hO)))) | ((refine sy_ hO ?_); clear hO; intro w9 hO; (try dsimp only [List.set] at hO); ((try clear hf); have hf := fa_ hO)))
      obtain ⟨g, hg9⟩ := (hO.pick (r := Var _ [.string lo, .string hi] 49) pk_).named
      rw [← hg9]; rw [← hg9] at hO; clear hg9
      have hO9 := hO.nil 104 4
      clear hO hf
      go_loopw [10, 40] (fun v10 v40 wr => ∃ (j oc2 : Nat) (ma : Option Addr), v10 = .slice ma j oc2 ∧ v40 = .int .i64 j ∧ j ≤ O.length ∧ Hid (∀ r ∈ O.take j, (msR r).2 = 0) ∧ Own S W wr ([Row2 104 4 ma j oc2 ((msG O j).flatMap msC), Var g [.string lo, .string hi] 49, ViewR q p since C R2, VerR p nn V, Row2 80 2 oa O.length oc (O.flatMap rwC), .imm φ] ++ L0)) (fun _ v _ => O.length - (intOf v).toNat)
      case atStart => exact ⟨0, 0, none, rfl, rfl, by omega, Lib.hid (fun _ h => by simp at h), by rw [show (msG O 0).flatMap msC = [] from rfl]; (try simp only [CA]); exact hO9.cut sb_⟩
      case round =>
        clear hO9
        obtain ⟨j, oc2, ma, rfl, rfl, hj, HOK, hO⟩ := hrel
        rename World => w1
        simp only [List.cons_append, List.nil_append] at hO
        ((try clear hf); have hf := fa_ hO)
        by_cases hlt : j < O.length
        · obtain ⟨n, hn, hkey, hval⟩ := HMO.out _ (List.getElem_mem hlt)
          obtain ⟨ob, oo, rfl⟩ := rw_some (rowV (hO.factOf (r := Row2 80 2 oa O.length oc (O.flatMap rwC)) pk_)) hlt
          have hc01 := rw_cells (rowV (hO.factOf (r := Row2 80 2 (some ⟨ob, oo, none⟩) O.length oc (O.flatMap rwC)) pk_)) hlt
          have hmr := msR_msg (v := O[j].val) hn hkey
          have hOj : (⟨O[j].key, O[j].val⟩ : Rw) = O[j] := rfl
          have HGN := Lib.hid (msG_next hlt)
          have HKN := Lib.hid (fun h => okG_next hlt HOK.out h)
          have HBD := Lib.hid (fun h => msgsN_bad (List.getElem_mem hlt) h)
          have HLN := Lib.hid (msG_len (O := O) (j := j) (by omega))
          have hor := msR_or O[j]
          rw [← hOj, hmr] at HGN HKN HBD hor
          clear hOj hmr
          have HMP := fun w h => mpar_any (numP n 6 : Nat) O[j].val (by omega) w h
          rw [show msOf ((numP n 6 : Nat) : Int) O[j].val = msOf (n : Int) O[j].val from rfl] at HMP
          obtain ⟨c0, c1⟩ := hc01
          rw [hkey] at c0
          generalize O[j].val = v at *
          clear hkey
          have hat : ∀ i, i < 6 → ∀ h, (msgB name n)[name.size + 3 + i]'h = d8 (numD n i) := fun i hi h => msgB_at name hn hi h
          generalize hkk : msgB name n = ky at *
          have hsz : ky.size = name.size + 9 := by rw [← hkk]; exact msgB_size name n
          clear hkk
          have hds : (ky.extract hi.size ky.size).size = 6 := by rw [ByteArray.size_extract]; omega
          have hdd : ∀ i, i < 6 → ∀ h, (ky.extract hi.size ky.size)[i]'h = d8 (numD n i) := fun i hi3 h => by
            have := hat i hi3 (by omega)
            rw [← this, ByteArray.getElem_extract]
            congr 1
            omega
          have hsz2 : hi.size ≤ ky.size ∧ ky.size ≤ hi.size + 6 ∧ hi.size + 6 ≤ ky.size := by omega
          have hs203 : hi.size ≤ 203 := by omega
          clear hsz hat
          obtain ⟨hs4, hs5, hs6⟩ := hsz2
          generalize hdk : ky.extract hi.size ky.size = d at *
          have hds1 := Lib.hid hds
          have hdd1 := Lib.hid hdd
          clear hds hdd
          generalize hmm : msOf (n : Int) v = mm at *
          obtain ⟨⟨m1, m2, m3, m4⟩, me⟩ := mm
          unfold Ms.v at HMP
          unfold Ms.z at hor
          dsimp only at HMP HGN HKN HBD hor
          have HOR := Lib.hid hor
          clear hmm hor
          go_upto_region 13 with (((refine sy_ hO ?_); clear hO; intro w9 hO; (try dsimp only [List.set] at hO); ((try clear hf); have hf := fa_ hO)))
          go_wp2
          go_loopw [13, 15] (fun v13 v15 wr => ∃ i : Nat, i ≤ 6 ∧ v13 = .int .i64 (numP n i) ∧ wr = w9.iter d i) (fun _ _ wr => 6 - posOf wr w9.heap.size)
          case atStart => exact ⟨0, by omega, rfl, rfl⟩
          case round =>
            obtain ⟨i, hi6, rfl, rfl⟩ := hrel
            by_cases hlt3 : i < 6
            · obtain ⟨n1, n2, n3⟩ := numP_next hn hlt3
              have hlt2 : i < d.size := by have := hds1.out; omega
              have hd8 : (d8 (numD n i)).toNat = 48 + numD n i := d8_toNat _ n2
              have hde : d[i].toNat = 48 + numD n i := by rw [hdd1.out i hlt3 hlt2]; exact hd8
              have hnx := fun ty => run_next_ascii (P := Tryz.prog) w9 d i ty hlt2 (by omega)
              rw [hde] at hnx
              go_wp2
              exact ⟨⟨i + 1, by omega, by rw [n1]; go_num, rfl⟩, by rw [posOf_iter, posOf_iter]; omega⟩
            · obtain rfl : i = 6 := by omega
              have hnx := fun ty => run_next_end (P := Tryz.prog) w9 d 6 ty (by have := hds1.out; omega)
              replace hO := hO.ext ((Ext.refl w9).iter d 6)
              ((try clear hf); have hf := fa_ hO)
              rcases HOR.out with rfl | ⟨rfl, he⟩
              · have hOK2 := HKN.out rfl
                rw [show errV 0 = .nilIface from rfl] at HMP
                go_wp2_with (first | (go_at_call 133; (with_reducible apply Calls.mono (HMP _ (hφ _ (Own.immOf (φ := φ) hO pk_))); rintro e8 w8 ⟨rfl, hx8⟩; replace hO := hO.ext hx8; clear hx8; dsimp only; ((try clear hf); have hf := fa_ hO))) | (at_builtin; (refine wpList_append_var (e := 104) (size := 4) (xs := (msG O j).flatMap msC) (news := [.int .i64 m1, .int .i64 m2, .int .i64 m3, .string m4]) hO pk_ pk_ rfl (.tmp 70) (.tmp 72) 107 rfl iM _ 40 Tryz.underlying107 hiM hzM hsM hbM rfl (by omega) rfl _ _ rfl (by rfl) (by repeat (first | exact ones_nil | refine ones_cons rfl ?_)) (by unfold maxLen; omega) (by omega) ?_; clear hO; intro ka9 kc9 w9 hO; ((try clear hf); have hf := fa_ hO))) | ((refine sy_ hO ?_); clear hO; intro w9 hO; (try dsimp only [List.set] at hO); ((try clear hf); have hf := fa_ hO)))
                refine ⟨⟨j + 1, kc9, ka9, rfl, by go_num, by omega, Lib.hid hOK2, ?_⟩, by simp [intOf]; omega⟩
                rw [HGN.out, ms_one]
                (try simp only [CA])
                exact hO.cut sb_
              · have h4 := HBD.out rfl
                rw [show errV 4 = .iface 127 (.int .i64 4) from rfl] at HMP
                go_wp2_with (first | (go_at_call 133; (with_reducible apply Calls.mono (HMP _ (hφ _ (Own.immOf (φ := φ) hO pk_))); rintro e8 w8 ⟨rfl, hx8⟩; replace hO := hO.ext hx8; clear hx8; dsimp only; ((try clear hf); have hf := fa_ hO))) | ((refine sy_ hO ?_); clear hO; intro w9 hO; (try dsimp only [List.set] at hO); ((try clear hf); have hf := fa_ hO)))
                rw [HY.out, h4, if_pos (by omega)]
                have hO := hO.nil 104 4
                go_ret2
                refine ⟨(none, 0), rfl, ?_⟩
                simp only [List.length_nil, List.flatMap_nil]
                (try simp only [CA])
                exact hO.cut sb_
        · obtain rfl : j = O.length := by omega
          have h4 : msgsN O = 0 := msgsN_ok (by have := HOK.out; rw [List.take_length] at this; exact this)
          rw [msG_all] at hO
          go_wp2_with (first | ((refine sy_ hO ?_); clear hO; intro w9 hO; (try dsimp only [List.set] at hO); ((try clear hf); have hf := fa_ hO)))
          go_ret2
          rw [HY.out, h4, if_neg (by omega)]
          dsimp only
          refine ⟨(ma, oc2), by simp; rfl, ?_⟩
          simp only [List.length_map]
          (try simp only [CA])
          exact hO.cut sb_
  · rw [e] at HF
    rw [if_pos h0]
    dsimp only
    rw [e]
    clear hok e hMR
    intro S W w L0 hO; simp only [CA] at hO
    ((try clear hf); have hf := fa_ hO)
    go_enter Tryz.func57, Tryz.ntmps57
    go_wp2_with (first | (go_at_call 115; (with_reducible apply Does.use hO (HF); (focus exact tk_); clear hO; intro x9 w9 hO; dsimp only at hO ⊢; simp only [CA] at hO; ((try clear hf); have hf := fa_ hO))) | ((refine sy_ hO ?_); clear hO; intro w9 hO; (try dsimp only [List.set] at hO); ((try clear hf); have hf := fa_ hO)))
    have hO := hO.nil 104 4
    go_ret2
    refine ⟨(none, 0), rfl, ?_⟩
    simp only [List.length_nil, List.flatMap_nil]
    (try simp only [CA])
    exact hO.cut sb_
end Go.Proofs.YtmknhibaoopjjaaGreatDoor
namespace Go.Proofs.YtmknhibaoopjjaaGreatDoor
open Go.RowKit
theorem Own.msIm {S : Nat → Prop} {W w : World} {l l' : List Rs} {a : Option Addr} {n c : Nat} {xs : List Value} (h : Own S W w l) (hp : Pick l (Row2 104 4 a n c xs) l') : Own S W w (.imm (fun w => ValsAt w a xs) :: l') :=
  Own.toImm (r := Row2 104 4 a n c xs) (φ := fun w => ValsAt w a xs) (fun w h => h.1) (h.pick hp)
set_option maxHeartbeats 16000000 in
set_option maxRecDepth 100000 in
theorem rMessages_does (q since : Nat) (ra : Option Addr) (rc : Nat) (rows : List Rw) (hs : QRows rows) (C : List Ch) (R : List Sp) (name : ByteArray) (hI : QInv C R) (hk : name.size ≤ 200) :
    Does Tryz.prog 117 #[.pointer (some ⟨q, 0, none⟩), .string name] [RViewR q since ra rc rows C R]
      (fun x : Option Addr × Nat => (.tuple #[.slice x.1 (msgsA rows C R name).1.length x.2, .int .i64 (msgsA rows C R name).2.1], [RViewR q since ra rc rows C (msgsA rows C R name).2.2, .imm (fun w => ValsAt w x.1 ((msgsA rows C R name).1.flatMap msC))])) := by
  obtain ⟨iM, hiM, hzM, hsM, hbM⟩ := info_parts Tryz.infoMs
  have hc12 := hI.c12
  have hrl := hs.len
  have HF := rFind_does q since ra rc rows C R name (valR_val (fun r hr => (hs.ok r hr).2) _) hI.val hk (by omega) (by omega) hI.r40
  have HMS := fun w => messagesSpan_any name w (by omega)
  have hr2 := (hI.find name).r40
  have HSC := rscan_does q since ra rc rows C (findR C R name) (loB name) (hiB name) 53 _ rfl (by omega) hr2 (by omega) (seen_keys hs hI (loB name) (hiB name))
  have hok := findN_ok (y := valR rows (queB name)) (C := C) (R := R) (name := name)
  have hMR := fun h => msgRows (name := name) hs hI h
  unfold msgsA
  unfold Qu.v at HF
  generalize hLL : inR (loB name) (hiB name) (C.foldl appR rows) = L at *
  have hLn : L.length ≤ 1012 := by
    rw [← hLL]
    exact Nat.le_trans (List.length_filter_le _ _) (Nat.le_trans (apps_len C rows) (by omega))
  clear hLL
  generalize findN (valR rows (queB name)) C R name = f at *
  generalize findR C R name = R1 at *
  generalize hiB name = hi at *
  generalize loB name = lo at *
  obtain ⟨⟨un, ut, ud⟩, f2⟩ := f
  dsimp only at HF hok ⊢
  clear hs hI
  by_cases h0 : f2 ≠ 0
  · rw [if_pos h0]
    dsimp only
    clear hok hMR
    intro S W w L0 hO; simp only [CA] at hO
    ((try clear hf); have hf := fa_ hO)
    go_enter Tryz.func117, Tryz.ntmps117
    go_wp2_with (first | (go_at_call 116; (with_reducible apply Does.use hO (HF); (focus exact tk_); clear hO; intro x9 w9 hO; dsimp only at hO ⊢; simp only [CA] at hO; ((try clear hf); have hf := fa_ hO))) | ((refine sy_ hO ?_); clear hO; intro w9 hO; (try dsimp only [List.set] at hO); ((try clear hf); have hf := fa_ hO)))
    all_goals try (exfalso; omega; done)
    have hO := (hO.nil 104 4).msIm (.here _ _)
    go_ret2
    refine ⟨(none, 0), rfl, ?_⟩
    simp only [List.length_nil, List.flatMap_nil]
    (try simp only [CA])
    exact hO.cut sb_
  · obtain rfl : f2 = 0 := by omega
    rw [if_neg h0]
    have hMR := hMR (hok rfl).2.2.2.2
    clear hok h0
    by_cases h1 : scnN L R1 lo hi 53 ≠ 0
    · rw [if_pos h1]
      have e1 : scnO L R1 lo hi 53 = [] := by unfold scnO; rw [if_neg h1]
      rw [e1] at HSC
      dsimp only [List.length_nil, List.flatMap_nil] at HSC ⊢
      generalize scnB L R1 lo hi 53 = R2 at *
      generalize scnN L R1 lo hi 53 = N at *
      clear e1 hMR
      intro S W w L0 hO; simp only [CA] at hO
      ((try clear hf); have hf := fa_ hO)
      go_enter Tryz.func117, Tryz.ntmps117
      go_wp2_with (first | (go_at_call 116; (with_reducible apply Does.use hO (HF); (focus exact tk_); clear hO; intro x9 w9 hO; dsimp only at hO ⊢; simp only [CA] at hO; ((try clear hf); have hf := fa_ hO))) | (go_at_call 177; (with_reducible apply Calls.mono (HMS _); rintro e8 w8 ⟨rfl, hx8⟩; replace hO := hO.ext hx8; clear hx8; dsimp only; ((try clear hf); have hf := fa_ hO))) | (go_at_call 24; (with_reducible apply Does.use hO (HSC); (focus exact tk_); clear hO; intro x9 w9 hO; dsimp only at hO ⊢; simp only [CA] at hO; ((try clear hf); have hf := fa_ hO); (obtain ⟨oa, oc⟩ := x9; dsimp only at hO ⊢; ((try clear hf); have hf := fa_ hO)))) | ((refine sy_ hO ?_); clear hO; intro w9 hO; (try dsimp only [List.set] at hO); ((try clear hf); have hf := fa_ hO)))
      all_goals try (exfalso; omega; done)
      have hO := (hO.nil 104 4).msIm (.here _ _)
      go_ret2
      refine ⟨(none, 0), rfl, ?_⟩
      simp only [List.length_nil, List.flatMap_nil]
      (try simp only [CA])
      exact hO.cut sb_
    · have h1 : scnN L R1 lo hi 53 = 0 := by omega
      rw [if_neg (by omega)]
      have e1 : scnO L R1 lo hi 53 = L.take 53 := by unfold scnO; rw [if_pos h1]; rfl
      rw [e1, h1] at HSC
      have hMO := hMR.take 53
      have hOl : (L.take 53).length ≤ 53 := by rw [List.length_take]; omega
      generalize scnB L R1 lo hi 53 = R2 at *
      generalize L.take 53 = O at *
      clear e1 h1 hMR hLn
      have HMO := Lib.hid hMO
      clear hMO
      generalize hyy : (if msgsN O ≠ 0 then (([] : List Ms), 4, R2) else (O.map (fun r => (msR r).1), 0, R2)) = y
      have HY := Lib.hid hyy.symm
      clear hyy
      intro S W w L0 hO; simp only [CA] at hO
      ((try clear hf); have hf := fa_ hO)
      go_enter Tryz.func117, Tryz.ntmps117
      go_wp2_with (first | (go_at_call 116; (with_reducible apply Does.use hO (HF); (focus exact tk_); clear hO; intro x9 w9 hO; dsimp only at hO ⊢; simp only [CA] at hO; ((try clear hf); have hf := fa_ hO))) | (go_at_call 177; (with_reducible apply Calls.mono (HMS _); rintro e8 w8 ⟨rfl, hx8⟩; replace hO := hO.ext hx8; clear hx8; dsimp only; ((try clear hf); have hf := fa_ hO))) | (go_at_call 24; (with_reducible apply Does.use hO (HSC); (focus exact tk_); clear hO; intro x9 w9 hO; dsimp only at hO ⊢; simp only [CA] at hO; ((try clear hf); have hf := fa_ hO); (obtain ⟨oa, oc⟩ := x9; dsimp only at hO ⊢; ((try clear hf); have hf := fa_ hO)))) | ((refine sy_ hO ?_); clear hO; intro w9 hO; (try dsimp only [List.set] at hO); ((try clear hf); have hf := fa_ hO)))
      have hO9 := hO.nil 104 4
      clear hO hf
      go_loopw [9, 10] (fun v9 v10 wr => ∃ (j oc2 : Nat) (ma : Option Addr), v9 = .slice ma j oc2 ∧ v10 = .int .i64 j ∧ j ≤ O.length ∧ Hid (∀ r ∈ O.take j, (msR r).2 = 0) ∧ Own S W wr ([Row2 104 4 ma j oc2 ((msG O j).flatMap msC), RViewR q since ra rc rows C R2, .imm (fun w => ValsAt w oa (O.flatMap rwC))] ++ L0)) (fun _ v _ => O.length - (intOf v).toNat)
      case atStart => exact ⟨0, 0, none, rfl, rfl, by omega, Lib.hid (fun _ h => by simp at h), by rw [show (msG O 0).flatMap msC = [] from rfl]; (try simp only [CA]); exact hO9.cut sb_⟩
      case round =>
        clear hO9
        obtain ⟨j, oc2, ma, rfl, rfl, hj, HOK, hO⟩ := hrel
        rename World => w1
        simp only [List.cons_append, List.nil_append] at hO
        ((try clear hf); have hf := fa_ hO)
        by_cases hlt : j < O.length
        · obtain ⟨n, hn, hkey, hval⟩ := HMO.out _ (List.getElem_mem hlt)
          obtain ⟨ob, oo, rfl⟩ := rw_some (hO.immOf (φ := fun w => ValsAt w oa (O.flatMap rwC)) pk_) hlt
          have hmr := msR_msg (v := O[j].val) hn hkey
          have hOj : (⟨O[j].key, O[j].val⟩ : Rw) = O[j] := rfl
          have HGN := Lib.hid (msG_next hlt)
          have HKN := Lib.hid (fun h => okG_next hlt HOK.out h)
          have HBD := Lib.hid (fun h => msgsN_bad (List.getElem_mem hlt) h)
          have HLN := Lib.hid (msG_len (O := O) (j := j) (by omega))
          have hor := msR_or O[j]
          rw [← hOj, hmr] at HGN HKN HBD hor
          clear hOj hmr
          have HMP := fun w => rmpar_any (n : Int) O[j].val (by omega) w
          have hcell := fun w (h : ValsAt w (some ⟨ob, oo, none⟩) (O.flatMap rwC)) => rw_cells h hlt
          rw [hkey] at hcell
          have HNO : ∀ w, Calls Tryz.prog 179 #[.string (msgB name n)] w fun e w' => e = .returned (.int .i64 (n : Int)) ∧ Ext w w' := fun w => (rnumberOf_any name n w (by omega) hn).mono fun e w' h => ⟨h.1, h.2 ▸ Ext.refl _⟩
          generalize O[j].val = v at *
          clear hkey
          generalize hkk : msgB name n = ky at *
          clear hkk
          generalize hmm : msOf (n : Int) v = mm at *
          clear hmm
          obtain ⟨⟨m1, m2, m3, m4⟩, me⟩ := mm
          unfold Ms.v at HMP
          unfold Ms.z at hor
          dsimp only at HMP HGN HKN HBD hor
          go_upto_region 11 with (((refine sy_ hO ?_); clear hO; intro w9 hO; (try dsimp only [List.set] at hO); ((try clear hf); have hf := fa_ hO)))
          refine wp_region_planI (fun w8 => Own S W w8 (.imm (fun w => ValsAt w (some ⟨ob, oo, none⟩) (O.flatMap rwC)) :: L0)) (fun _ _ h hx => h.ext hx) (hO.cut sb_) [0, 1, 2, 3, 6, 7, 8, 9, 12, 13, 14, 17, 1004, 1010] (.pure 0 <| .pure 1 <| .pure 2 <| .pure 3 <| .see 4 <| .pure 6 <| .pure 7 <| .pure 8 <| .pure 9 <| .see 10 <| .fork 5 (.fork 11 (.pure 12 <| .pure 13 <| .pure 14 <| .one 15 <| .one 16 <| .pure 17 .done) 15 (.one 11 <| .pure 12 <| .pure 13 <| .pure 14 <| .one 16 <| .pure 17 .done)) 15 (.one 5 <| .one 11 <| .pure 12 <| .pure 13 <| .pure 14 <| .one 16 <| .pure 17 .done)) (by kernel_rfl) (by kernel_rfl) (fun _ _ d _ _ h => by cases d <;> exact h) ?_
          intro w9 hx9
          replace hO := hO.ext hx9
          clear hx9
          ((try clear hf); have hf := fa_ hO)
          (repeat (first | (apply inPlan_p _ rfl rfl rfl; focus (intro w8 K8 hK8; (repeat (first | go_skip | go_guarded | go_step)); exact hK8)) | (apply inPlan_s _ rfl rfl rfl; focus (intro w8 hI8 K8 hK8; obtain ⟨d0, d1⟩ := hcell _ (Own.immOf (φ := fun w => ValsAt w (some ⟨ob, oo, none⟩) (O.flatMap rwC)) hI8 pk_); (repeat (first | go_skip | go_guarded | go_step)); exact hK8))))
          refine inPlan_forkI rfl rfl ?_ ?_
          (intro K8 hK8; (repeat (first | go_skip | go_guarded | go_step)); (go_at_call 179; (with_reducible apply Calls.mono (HNO _); rintro e7 w7 ⟨rfl, hx7⟩; replace hO := hO.ext hx7; clear hx7; dsimp only; ((try clear hf); have hf := fa_ hO))); (repeat go_step); refine hK8 _ _ (hO.cut sb_) ?_; clear hK8 K8)
          refine inPlan_forkI rfl rfl ?_ ?_
          (intro K8 hK8; (repeat (first | go_skip | go_guarded | go_step)); (go_at_call 178; (with_reducible apply Calls.mono (HMP _); rintro e7 w7 ⟨rfl, hx7⟩; replace hO := hO.ext hx7; clear hx7; dsimp only; ((try clear hf); have hf := fa_ hO))); (repeat go_step); refine hK8 _ _ (hO.cut sb_) ?_; clear hK8 K8)
          (repeat (first | (apply inPlan_p _ rfl rfl rfl; focus (intro w8 K8 hK8; (repeat (first | go_skip | go_guarded | go_step)); exact hK8)) | (apply inPlan_s _ rfl rfl rfl; focus (intro w8 hI8 K8 hK8; obtain ⟨d0, d1⟩ := hcell _ (Own.immOf (φ := fun w => ValsAt w (some ⟨ob, oo, none⟩) (O.flatMap rwC)) hI8 pk_); (repeat (first | go_skip | go_guarded | go_step)); exact hK8))))
          refine inPlan_oneI rfl ?_
          (intro K8 hK8; (repeat (first | go_skip | go_guarded | go_step)); refine hK8 _ _ ((hO.alloc _ _).cut sb_) ?_; clear hK8 K8; with_reducible refine inPlan_alloc_own hO ?_; clear hO; intro w9 hO; ((try clear hf); have hf := fa_ hO))
          refine inPlan_oneI rfl ?_
          (intro K8 hK8; (repeat (first | go_skip | go_guarded | go_step)); (apply k_set_own (G := K8 _ _)); (focus (exact st_ hO)); clear hO; intro w9 hO; (try dsimp only [List.set] at hO); ((try clear hf); have hf := fa_ hO); refine hK8 _ _ (hO.cut sb_) ?_; clear hK8 K8)
          (repeat (first | (apply inPlan_p _ rfl rfl rfl; focus (intro w8 K8 hK8; (repeat (first | go_skip | go_guarded | go_step)); exact hK8)) | (apply inPlan_s _ rfl rfl rfl; focus (intro w8 hI8 K8 hK8; obtain ⟨d0, d1⟩ := hcell _ (Own.immOf (φ := fun w => ValsAt w (some ⟨ob, oo, none⟩) (O.flatMap rwC)) hI8 pk_); (repeat (first | go_skip | go_guarded | go_step)); exact hK8))))
          refine inPlan_done ?_
          rotate_left
          (intro K8 hK8; (repeat (first | go_skip | go_guarded | go_step)); refine hK8 _ _ ((hO.alloc _ _).cut sb_) ?_; clear hK8 K8; with_reducible refine inPlan_alloc_own hO ?_; clear hO; intro w9 hO; ((try clear hf); have hf := fa_ hO))
          refine inPlan_oneI rfl ?_
          (intro K8 hK8; (repeat (first | go_skip | go_guarded | go_step)); (go_at_call 178; (with_reducible apply Calls.mono (HMP _); rintro e7 w7 ⟨rfl, hx7⟩; replace hO := hO.ext hx7; clear hx7; dsimp only; ((try clear hf); have hf := fa_ hO))); (repeat go_step); refine hK8 _ _ (hO.cut sb_) ?_; clear hK8 K8)
          (repeat (first | (apply inPlan_p _ rfl rfl rfl; focus (intro w8 K8 hK8; (repeat (first | go_skip | go_guarded | go_step)); exact hK8)) | (apply inPlan_s _ rfl rfl rfl; focus (intro w8 hI8 K8 hK8; obtain ⟨d0, d1⟩ := hcell _ (Own.immOf (φ := fun w => ValsAt w (some ⟨ob, oo, none⟩) (O.flatMap rwC)) hI8 pk_); (repeat (first | go_skip | go_guarded | go_step)); exact hK8))))
          refine inPlan_oneI rfl ?_
          (intro K8 hK8; (repeat (first | go_skip | go_guarded | go_step)); (apply k_set_own (G := K8 _ _)); (focus (exact st_ hO)); clear hO; intro w9 hO; (try dsimp only [List.set] at hO); ((try clear hf); have hf := fa_ hO); refine hK8 _ _ (hO.cut sb_) ?_; clear hK8 K8)
          (repeat (first | (apply inPlan_p _ rfl rfl rfl; focus (intro w8 K8 hK8; (repeat (first | go_skip | go_guarded | go_step)); exact hK8)) | (apply inPlan_s _ rfl rfl rfl; focus (intro w8 hI8 K8 hK8; obtain ⟨d0, d1⟩ := hcell _ (Own.immOf (φ := fun w => ValsAt w (some ⟨ob, oo, none⟩) (O.flatMap rwC)) hI8 pk_); (repeat (first | go_skip | go_guarded | go_step)); exact hK8))))
          refine inPlan_done ?_
          rotate_left
          (intro K8 hK8; (repeat (first | go_skip | go_guarded | go_step)); refine hK8 _ _ ((hO.alloc _ _).cut sb_) ?_; clear hK8 K8; with_reducible refine inPlan_alloc_own hO ?_; clear hO; intro w9 hO; ((try clear hf); have hf := fa_ hO))
          refine inPlan_oneI rfl ?_
          (intro K8 hK8; (repeat (first | go_skip | go_guarded | go_step)); (go_at_call 179; (with_reducible apply Calls.mono (HNO _); rintro e7 w7 ⟨rfl, hx7⟩; replace hO := hO.ext hx7; clear hx7; dsimp only; ((try clear hf); have hf := fa_ hO))); (repeat go_step); refine hK8 _ _ (hO.cut sb_) ?_; clear hK8 K8)
          refine inPlan_oneI rfl ?_
          (intro K8 hK8; (repeat (first | go_skip | go_guarded | go_step)); (go_at_call 178; (with_reducible apply Calls.mono (HMP _); rintro e7 w7 ⟨rfl, hx7⟩; replace hO := hO.ext hx7; clear hx7; dsimp only; ((try clear hf); have hf := fa_ hO))); (repeat go_step); refine hK8 _ _ (hO.cut sb_) ?_; clear hK8 K8)
          (repeat (first | (apply inPlan_p _ rfl rfl rfl; focus (intro w8 K8 hK8; (repeat (first | go_skip | go_guarded | go_step)); exact hK8)) | (apply inPlan_s _ rfl rfl rfl; focus (intro w8 hI8 K8 hK8; obtain ⟨d0, d1⟩ := hcell _ (Own.immOf (φ := fun w => ValsAt w (some ⟨ob, oo, none⟩) (O.flatMap rwC)) hI8 pk_); (repeat (first | go_skip | go_guarded | go_step)); exact hK8))))
          refine inPlan_oneI rfl ?_
          (intro K8 hK8; (repeat (first | go_skip | go_guarded | go_step)); (apply k_set_own (G := K8 _ _)); (focus (exact st_ hO)); clear hO; intro w9 hO; (try dsimp only [List.set] at hO); ((try clear hf); have hf := fa_ hO); refine hK8 _ _ (hO.cut sb_) ?_; clear hK8 K8)
          (repeat (first | (apply inPlan_p _ rfl rfl rfl; focus (intro w8 K8 hK8; (repeat (first | go_skip | go_guarded | go_step)); exact hK8)) | (apply inPlan_s _ rfl rfl rfl; focus (intro w8 hI8 K8 hK8; obtain ⟨d0, d1⟩ := hcell _ (Own.immOf (φ := fun w => ValsAt w (some ⟨ob, oo, none⟩) (O.flatMap rwC)) hI8 pk_); (repeat (first | go_skip | go_guarded | go_step)); exact hK8))))
          refine inPlan_done ?_
          all_goals
            rcases hor with rfl | ⟨rfl, he⟩
            · have hOK2 := HKN.out rfl
              go_wp2_with (first | (at_builtin; (refine wpList_append_var (e := 104) (size := 4) (xs := (msG O j).flatMap msC) (news := [.int .i64 m1, .int .i64 m2, .int .i64 m3, .string m4]) hO pk_ pk_ rfl (.tmp 56) (.tmp 58) 107 rfl iM _ 40 Tryz.underlying107 hiM hzM hsM hbM rfl (by omega) rfl _ _ rfl (by rfl) (by repeat (first | exact ones_nil | refine ones_cons rfl ?_)) (by unfold maxLen; omega) (by omega) ?_; clear hO; intro ka9 kc9 w9 hO; ((try clear hf); have hf := fa_ hO))) | ((refine sy_ hO ?_); clear hO; intro w9 hO; (try dsimp only [List.set] at hO); ((try clear hf); have hf := fa_ hO)))
              refine And.intro ?_ (by simp [intOf]; omega)
              (repeat apply Exists.intro)
              refine And.intro ?_ ⟨rfl, rfl, rfl, rfl⟩
              refine ⟨j + 1, kc9, ka9, rfl, by go_num, by omega, Lib.hid hOK2, ?_⟩
              rw [HGN.out, ms_one]
              (try simp only [CA])
              exact hO.cut sb_
            · have h4 := HBD.out rfl
              go_wp2_with (first | ((refine sy_ hO ?_); clear hO; intro w9 hO; (try dsimp only [List.set] at hO); ((try clear hf); have hf := fa_ hO)))
              all_goals try (exfalso; omega; done)
              rw [HY.out, h4, if_pos (by omega)]
              have hO := (hO.nil 104 4).msIm (.here _ _)
              go_ret2
              refine ⟨(none, 0), rfl, ?_⟩
              simp only [List.length_nil, List.flatMap_nil]
              (try simp only [CA])
              exact hO.cut sb_
        · obtain rfl : j = O.length := by omega
          have h4 : msgsN O = 0 := msgsN_ok (by have := HOK.out; rw [List.take_length] at this; exact this)
          have hO := hO.msIm (a := ma) (n := O.length) (c := oc2) (xs := (msG O O.length).flatMap msC) pk_
          rw [msG_all] at hO
          go_wp2_with (first | ((refine sy_ hO ?_); clear hO; intro w9 hO; (try dsimp only [List.set] at hO); ((try clear hf); have hf := fa_ hO)))
          go_ret2
          rw [HY.out, h4, if_neg (by omega)]
          dsimp only
          refine ⟨(ma, oc2), by simp, ?_⟩
          (try simp only [CA])
          exact hO.cut sb_
end Go.Proofs.YtmknhibaoopjjaaGreatDoor
