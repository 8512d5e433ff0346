/- Texts View5, RView2, ViewSays, Views, ViewLaw, Q1, Q2, Q3, Q4, Q5, Q6, Q15, Q16, Q17, Q18 of this claim, laid together. -/
import Derived.Test.YtmknhibaoopjjaaGreatDoorGTopDeadProof25
import Derived.Test.YtmknhibaoopjjaaGreatDoorGTopDeadProof24
import Derived.Test.YtmknhibaoopjjaaGreatDoorGTopDeadProof27
import Derived.Test.YtmknhibaoopjjaaGreatDoorGTopDeadProof28
import Derived.Test.YtmknhibaoopjjaaGreatDoorGTopDeadProof22
set_option linter.unusedVariables false
set_option linter.unusedSimpArgs false
namespace Go.Proofs.YtmknhibaoopjjaaGreatDoor
open Go.RowKit
@[go_sem] theorem run_field_span (a b : ByteArray) (w : World) : (Instr.field 49 (.agg #[.string a, .string b]) 1).run Tryz.prog w = .ok (.string b) w := by kernel_rfl
theorem scnS_cut {L : List Rw} {k : Nat} (lo hi : ByteArray) (h1 : 1 ≤ k) (h2 : k ≤ L.length) : scnS L lo hi k = Sp.both ⟨lo, hi⟩ ⟨⟨#[]⟩, (L[k - 1]'(by omega)).key ++ nul⟩ := by
  unfold scnS
  rw [if_pos (by omega), show (k : Int).toNat - 1 = k - 1 from by omega, List.getD_eq_getElem?_getD, List.getElem?_eq_getElem (by omega)]
  rfl
theorem scnS_all {L : List Rw} {most : Int} (lo hi : ByteArray) (h : (L.length : Int) < most) : scnS L lo hi most = ⟨lo, hi⟩ := by
  unfold scnS; rw [if_neg (by omega)]
theorem scn_of {L : List Rw} {R : List Sp} {lo hi : ByteArray} {most : Int} {s : Sp} (h1 : 1 ≤ most) (hs : scnS L lo hi most = s) : scnN L R lo hi most = noteN R s ∧ scnB L R lo hi most = noteR R s ∧ scnO L R lo hi most = if noteN R s = 0 then L.take most.toNat else [] := by
  have e : scnN L R lo hi most = noteN R s := by unfold scnN; rw [if_neg (by omega), hs]
  refine ⟨e, ?_, ?_⟩
  · unfold scnB; rw [if_neg (by omega), hs]
  · unfold scnO; rw [e]
theorem scn_low {L : List Rw} {R : List Sp} (lo hi : ByteArray) {most : Int} (h : most < 1) : scnN L R lo hi most = 1 ∧ scnB L R lo hi most = R ∧ scnO L R lo hi most = [] := by
  have e : scnN L R lo hi most = 1 := by unfold scnN; rw [if_pos h]
  refine ⟨e, ?_, ?_⟩
  · unfold scnB; rw [if_pos h]
  · unfold scnO; rw [e]; rfl
theorem apps_ups : ∀ {C : List Ch} {l : List Rw}, RUps l → RUps (C.foldl appR l)
  | [], _, h => h
  | c :: C, l, h => apps_ups (C := C) (l := appR l c) (appF_ups h)
set_option maxHeartbeats 4000000 in
set_option maxRecDepth 100000 in
theorem vwScan_low (q p since nn : Nat) (V : List (ByteArray × List Vn)) (C : List Ch) (R : List Sp) (lo hi : ByteArray) (most : Int) (hm : most < 1) :
    Does Tryz.prog 23 #[.pointer (some ⟨q, 0, none⟩), .agg #[.string lo, .string hi], .int .i64 most] [ViewR q p since C R, VerR p nn V]
      (fun _ : Unit => (.tuple #[.slice none 0 0, errV 1], [ViewR q p since C R, VerR p nn V])) := by
  rw [show errV 1 = .iface 127 (.int .i64 1) from rfl]
  intro S W w L0 hO; simp only [CA] at hO
  ((try clear hf); have hf := fa_ hO)
  go_enter Tryz.func23, Tryz.ntmps23
  go_wp2_with (first | ((refine sy_ hO ?_); clear hO; intro w9 hO; (try dsimp only [List.set] at hO); ((try clear hf); have hf := fa_ hO)))
  go_ret2
  refine ⟨(), rfl, ?_⟩
  (try simp only [CA])
  exact hO.cut sb_
set_option maxHeartbeats 4000000 in
set_option maxRecDepth 100000 in
theorem vwScan_up (q p since nn : Nat) (V : List (ByteArray × List Vn)) (C : List Ch) (R : List Sp) (lo hi : ByteArray) (most : Int) (L : List Rw) (hL : (inC lo hi C).foldl appR (scanV V (hasB lo hi) since) = L)
    (hnd : (V.map (·.1)).Nodup) (hC : C.length ≤ 1000) (hR : R.length ≤ 40) (hVl : V.length ≤ 50000) (hV : ∀ e ∈ V, e.2.length ≤ 100000) (hks : ∀ r ∈ L, r.key.size ≤ 300) (h1 : 1 ≤ most) :
    Does Tryz.prog 23 #[.pointer (some ⟨q, 0, none⟩), .agg #[.string lo, .string hi], .int .i64 most] [ViewR q p since C R, VerR p nn V]
      (fun x : Option Addr × Nat => (.tuple #[.slice x.1 (scnO L R lo hi most).length x.2, errV (scnN L R lo hi most)], [ViewR q p since C (scnB L R lo hi most), VerR p nn V, Row2 80 2 x.1 (scnO L R lo hi most).length x.2 ((scnO L R lo hi most).flatMap rwC)])) := by
  have HSC := vscan_does p nn V lo hi since (by omega) hV
  have hbase := scanV_ups hnd (hasB lo hi) since
  have hblen := scanV_len V (hasB lo hi) since
  generalize scanV V (hasB lo hi) since = B at *
  have HL := Lib.hid hL
  have HKS := Lib.hid hks
  have HB := Lib.hid hbase
  clear hL hks hbase hnd hV
  intro S W w L0 hO
  simp only [CA] at hO
  obtain ⟨ca, cc, ra, rc, hO⟩ := hO.ofView (C := C) (R := R) (.here _ _)
  ((try clear hf); have hf := fa_ hO)
  go_enter Tryz.func23, Tryz.ntmps23
  go_wp2_with (first | ((refine sy_ hO ?_); clear hO; intro w9 hO; (try dsimp only [List.set] at hO); ((try clear hf); have hf := fa_ hO)))
  (refine wp_region_run (fun _ => True) (fun _ _ _ _ => trivial) trivial ((0, 0) :: (0, 1) :: (0, 2) :: (1, 3) :: (1, 4) :: (0, 5) :: (0, 6) :: (0, 7) :: (1, 8) :: (5, 9) :: (0, 10) :: []) (by kernel_rfl) (by kernel_rfl) rfl (fun _ _ d _ _ h => by cases d <;> exact h) ?_; intro w9 hx9; replace hO := hO.ext hx9; clear hx9; ((try clear hf); have hf := fa_ hO); (repeat (first | (apply inRun_p _ rfl rfl rfl; focus (intro w8 K8 hK8; (repeat (first | go_skip | go_guarded | go_step)); exact hK8)) | (apply inRun_l _ rfl rfl rfl; focus (intro w8 hx8 K8 hK8; have hO := hO.ext hx8; ((try clear hf); have hf := fa_ hO); skip; (repeat (first | go_skip | go_guarded | go_step)); exact hK8)) | (apply inRun_q _ rfl; (focus (intro w8 hx8 K8 hK8; have hO := hO.ext hx8; ((try clear hf); have hf := fa_ hO); (repeat (first | go_skip | go_guarded | go_step | fail)); (first | exact xt_ | exact hK8 _ xt_))); (focus (exact rfl)); intro w8 hx8; replace hO := hO.ext hx8; clear hx8; ((try clear hf); have hf := fa_ hO)))))
  (refine inRun_d rfl ?_; intro K8 hK8; (repeat (first | go_skip | go_guarded | go_step)); (go_at_call 68; (with_reducible apply Does.use hO (HSC); (focus exact tk_); clear hO; intro x9 w9 hO; dsimp only at hO ⊢; simp only [CA] at hO; ((try clear hf); have hf := fa_ hO); (obtain ⟨ba, bc⟩ := x9; dsimp only at hO ⊢; ((try clear hf); have hf := fa_ hO)))); (repeat go_step); refine hK8 _ _ trivial ?_; clear hK8 K8)
  (repeat (first | (apply inRun_p _ rfl rfl rfl; focus (intro w8 K8 hK8; (repeat (first | go_skip | go_guarded | go_step)); exact hK8)) | (apply inRun_l _ rfl rfl rfl; focus (intro w8 hx8 K8 hK8; have hO := hO.ext hx8; ((try clear hf); have hf := fa_ hO); skip; (repeat (first | go_skip | go_guarded | go_step)); exact hK8)) | (apply inRun_q _ rfl; (focus (intro w8 hx8 K8 hK8; have hO := hO.ext hx8; ((try clear hf); have hf := fa_ hO); (repeat (first | go_skip | go_guarded | go_step | fail)); (first | exact xt_ | exact hK8 _ xt_))); (focus (exact rfl)); intro w8 hx8; replace hO := hO.ext hx8; clear hx8; ((try clear hf); have hf := fa_ hO))))
  refine inRun_nil ?_
  go_wp2_with (first | ((refine sy_ hO ?_); clear hO; intro w9 hO; (try dsimp only [List.set] at hO); ((try clear hf); have hf := fa_ hO)))
  obtain ⟨g, hg9⟩ := (hO.pick (r := Var _ [.string lo, .string hi] 49) pk_).named
  rw [← hg9]; rw [← hg9] at hO; clear hg9
  have hO9 := hO
  clear hO hf HSC
  go_loopw [8, 31] (fun v8 v31 wr => ∃ (j on oc : Nat) (oa : Option Addr) (O : List Rw), v8 = .slice oa on oc ∧ v31 = .int .i64 j ∧ j ≤ C.length ∧ on ≤ 50000 + j ∧ Hid (O.length = on) ∧ Hid (O = (inC lo hi (C.take j)).foldl appR B) ∧ Own S W wr ([Var g [.string lo, .string hi] 49, Var q [.pointer (some ⟨p, 0, none⟩), .int .i64 since, .slice ca C.length cc, .slice ra R.length rc] 119, .imm (fun w => ChAt w ca C), Row2 49 2 ra R.length rc (R.flatMap spC), VerR p nn V, Row2 80 2 oa on oc (O.flatMap rwC)] ++ L0)) (fun _ v _ => C.length - (intOf v).toNat)
  case atStart => exact ⟨0, B.length, bc, ba, B, rfl, rfl, by omega, by omega, Lib.hid rfl, Lib.hid (by rw [List.take_zero]; rfl), by (try simp only [CA]); exact hO9.cut sb_⟩
  case round =>
    clear hO9
    obtain ⟨j, on, oc, oa, O, rfl, rfl, hj, hon, HOn, HO, hO⟩ := hrel
    rename World => w1
    simp only [CA] at hO
    ((try clear hf); have hf := fa_ hO)
    by_cases hlt : j < C.length
    · obtain ⟨b, off, rfl⟩ := ChAt.some (a := ca) (hO.immOf (φ := fun w => ChAt w ca C) pk_) (by omega)
      obtain ⟨c0, c1, c2⟩ := ChAt.at (b := b) (off := off) (hO.immOf (φ := fun w => ChAt w (some ⟨b, off, none⟩) C) pk_) hlt
      cases hh : hasB lo hi C[j].key with
      | false =>
        have e1 := Lib.hid (HO.out.trans (by rw [inC_no hlt hh] : (inC lo hi (C.take j)).foldl appR B = (inC lo hi (C.take (j + 1))).foldl appR B))
        have HH := fun w => hasB_any lo hi C[j].key w
        rw [hh] at HH
        clear HO hh
        generalize C[j] = c at *
        obtain ⟨ck, cv, cg⟩ := c
        dsimp only at *
        go_wp2_with (first | (go_at_call 69; (with_reducible apply Calls.mono (HH _); rintro e8 w8 ⟨rfl, hx8⟩; replace hO := hO.ext hx8; clear hx8; dsimp only; ((try clear hf); have hf := fa_ hO))) | ((refine sy_ hO ?_); clear hO; intro w9 hO; (try dsimp only [List.set] at hO); ((try clear hf); have hf := fa_ hO)))
        refine ⟨⟨j + 1, on, oc, oa, O, rfl, by go_num, by omega, by omega, HOn, e1, ?_⟩, by simp [intOf]; omega⟩
        (try simp only [CA])
        exact hO.cut sb_
      | true =>
        have HUO : RUps O := by rw [HO.out]; exact apps_ups HB.out
        have e1 := Lib.hid (show (inC lo hi (C.take (j + 1))).foldl appR B = appR O C[j] by rw [inC_yes hlt hh, List.foldl_append, ← HO.out]; rfl)
        have e2 := Lib.hid (stepR_app (c := C[j]) HUO)
        have HH := fun w => hasB_any lo hi C[j].key w
        rw [hh] at HH
        clear HUO HO hh
        generalize C[j] = c at *
        obtain ⟨ck, cv, cg⟩ := c
        dsimp only at *
        have HX := fun a c' g w h1 h2 => indexR_any a on c' O ck g w HOn.out (by omega) h1 h2
        have hie := idxR_le O ck
        rw [HOn.out] at hie
        go_upto_region 8 with (first | (go_at_call 69; (with_reducible apply Calls.mono (HH _); rintro e8 w8 ⟨rfl, hx8⟩; replace hO := hO.ext hx8; clear hx8; dsimp only; ((try clear hf); have hf := fa_ hO))) | ((refine sy_ hO ?_); clear hO; intro w9 hO; (try dsimp only [List.set] at hO); ((try clear hf); have hf := fa_ hO)))
        obtain ⟨gc, hg9⟩ := (hO.pick (r := Var _ [.string ck, .string cv, .bool cg] 46) pk_).named
        rw [← hg9]; rw [← hg9] at hO; clear hg9
        ((try clear hf); have hf := fa_ hO)
        by_cases hi2 : idxR O ck < on
        · have hii := idxI_hit (l := O) (k := ck) (by rw [HOn.out]; exact hi2)
          rw [hii] at HX
          clear hii
          obtain ⟨g0, rfl, _⟩ := hO.rowAt (e := 80) (size := 2) (a := oa) (n := on) (cap := oc) (xs := O.flatMap rwC) pk_ (by omega)
          have hi3 : idxR O ck < O.length := by rw [HOn.out]; exact hi2
          have hcy := fun w (h : ValsAt w (some ⟨g0, 0, none⟩) (O.flatMap rwC)) => rw_cells h hi3
          simp only [Nat.zero_add] at hcy
          have hat := hitR_at hi3
          cases hit : hitR O ck with
          | true =>
            rw [hit] at hat
            have hk : O[idxR O ck].key = ck := of_decide_eq_true hat.symm
            obtain ⟨O1, hO1⟩ : ∃ O1, O1 = offR O ck := ⟨_, rfl⟩
            have e3 : O1 = O.eraseIdx (idxR O ck) := by rw [hO1]; unfold offR; rw [if_pos hit]
            obtain ⟨n1, rfl⟩ : ∃ n1, on = n1 + 1 := ⟨on - 1, by omega⟩
            have HN1 := Lib.hid (show O1.length = n1 by rw [e3, List.length_eraseIdx, if_pos hi3, HOn.out]; omega)
            have HDL := fun c => deleteR_does g0 n1 c (idxR O ck) O HOn.out (by omega) (by omega)
            rw [← e3] at HDL
            clear e3 hat hit
            have E2 : Hid (appR O ⟨ck, cv, cg⟩ = if cg = true then O1 else insR O1 (idxR O ck) ⟨ck, cv⟩) := Lib.hid (by rw [← e2.out, hO1]; rfl)
            clear e2 hO1
            generalize O[idxR O ck] = x at *
            generalize idxR O ck = i at *
            obtain ⟨xk, xv⟩ := x
            dsimp only at hcy hk
            replace hk := hk.symm
            subst hk
            go_upto_region 11 with (first | (go_at_call 70; (with_reducible apply Calls.mono (HX _ _ _ _ (rowV (hO.factOf (r := Row2 80 2 (some ⟨g0, 0, none⟩) (n1 + 1) oc (O.flatMap rwC)) pk_)) (hO.varAt (b := gc) (k := 0) (v := .string ck) (cs := [.string ck, .string cv, .bool cg]) (t := 46) pk_ rfl)); rintro e8 w8 ⟨rfl, hx8⟩; replace hO := hO.ext hx8; clear hx8; dsimp only; ((try clear hf); have hf := fa_ hO))) | ((refine sy_ hO ?_); clear hO; intro w9 hO; (try dsimp only [List.set] at hO); ((try clear hf); have hf := fa_ hO)))
            (refine wp_region_run (fun _ => True) (fun _ _ _ _ => trivial) trivial ((0, 0) :: (0, 1) :: (1, 2) :: (0, 3) :: (0, 4) :: (0, 5) :: (0, 6) :: (0, 7) :: (0, 8) :: (1, 9) :: (0, 10) :: (1, 11) :: (0, 12) :: (0, 13) :: []) (by kernel_rfl) (by kernel_rfl) rfl (fun _ _ d _ _ h => by cases d <;> exact h) ?_; intro w9 hx9; replace hO := hO.ext hx9; clear hx9; ((try clear hf); have hf := fa_ hO); (repeat (first | (apply inRun_p _ rfl rfl rfl; focus (intro w8 K8 hK8; (repeat (first | go_skip | go_guarded | go_step)); exact hK8)) | (apply inRun_l _ rfl rfl rfl; focus (intro w8 hx8 K8 hK8; have hO := hO.ext hx8; ((try clear hf); have hf := fa_ hO); obtain ⟨d0, d1⟩ := hcy _ (rowV (hO.factOf (r := Row2 80 2 (some ⟨g0, 0, none⟩) (n1 + 1) oc (O.flatMap rwC)) pk_)); (repeat (first | go_skip | go_guarded | go_step)); exact hK8)) | (apply inRun_q _ rfl; (focus (intro w8 hx8 K8 hK8; have hO := hO.ext hx8; ((try clear hf); have hf := fa_ hO); (repeat (first | go_skip | go_guarded | go_step | fail)); (first | exact xt_ | exact hK8 _ xt_))); (focus (exact rfl)); intro w8 hx8; replace hO := hO.ext hx8; clear hx8; ((try clear hf); have hf := fa_ hO)))))
            refine inRun_nil ?_
            have HIN : ∀ (a : Option Addr) (c g vc : Nat), Does Tryz.prog 73 #[.slice a n1 c, .int .i64 i, .slice (some ⟨g, 0, none⟩) 1 vc] [Row2 80 2 a n1 c (O1.flatMap rwC), Var g [.string ck, .string cv] 80] (fun p : Option Addr × Nat => (.slice p.1 (n1 + 1) p.2, [Row2 80 2 p.1 (n1 + 1) p.2 ((insR O1 i ⟨ck, cv⟩).flatMap rwC)])) := fun a c g vc => insertR_does a n1 c g vc i O1 ⟨ck, cv⟩ HN1.out (by omega) (by omega)
            have HIL := Lib.hid (insR_length O1 i ⟨ck, cv⟩ (by rw [HN1.out]; omega))
            cases cg with
            | true =>
              go_wp2_with (first | (go_at_call 72; (with_reducible apply Does.use hO (HDL _); (focus exact tk_); clear hO; intro x9 w9 hO; dsimp only at hO ⊢; simp only [CA] at hO; ((try clear hf); have hf := fa_ hO))) | ((refine sy_ hO ?_); clear hO; intro w9 hO; (try dsimp only [List.set] at hO); ((try clear hf); have hf := fa_ hO)))
              refine ⟨⟨j + 1, n1, oc, (some ⟨g0, 0, none⟩), O1, rfl, by go_num, by omega, by omega, HN1, Lib.hid (e1.out.trans (E2.out.trans (if_pos rfl))).symm, ?_⟩, by simp [intOf]; omega⟩
              (try simp only [CA])
              exact hO.cut sb_
            | false =>
              go_wp2_with (first | (go_at_call 72; (with_reducible apply Does.use hO (HDL _); (focus exact tk_); clear hO; intro x9 w9 hO; dsimp only at hO ⊢; simp only [CA] at hO; ((try clear hf); have hf := fa_ hO))) | (go_at_call 73; (with_reducible apply Does.use hO (HIN _ _ _ _); (focus exact tk_); clear hO; intro x9 w9 hO; dsimp only at hO ⊢; simp only [CA] at hO; ((try clear hf); have hf := fa_ hO); (obtain ⟨pa, pc⟩ := x9; dsimp only at hO ⊢; ((try clear hf); have hf := fa_ hO)))) | ((refine sy_ hO ?_); clear hO; intro w9 hO; (try dsimp only [List.set] at hO); ((try clear hf); have hf := fa_ hO)))
              refine ⟨⟨j + 1, n1 + 1, pc, pa, insR O1 i ⟨ck, cv⟩, rfl, by go_num, by omega, by omega, Lib.hid (by rw [HIL.out, HN1.out]), Lib.hid (e1.out.trans (E2.out.trans (if_neg Bool.false_ne_true))).symm, ?_⟩, by simp [intOf]; omega⟩
              (try simp only [CA])
              exact hO.cut sb_
          | false =>
            rw [hit] at hat
            have hk : ¬ O[idxR O ck].key = ck := of_decide_eq_false hat.symm
            have hk2 : ¬ O[idxR O ck].key.toList = ck.toList := fun h => hk (toList_inj h)
            have hk3 : (O[idxR O ck].key.toList == ck.toList) = false := by simpa using hk2
            have HN1 := HOn
            have E2 : Hid (appR O ⟨ck, cv, cg⟩ = if cg = true then O else insR O (idxR O ck) ⟨ck, cv⟩) := Lib.hid (by rw [← e2.out, ← offR_no hit]; unfold stepR; rw [offR_no hit, offR_no hit])
            clear e2 hat hit
            obtain ⟨O1, hO1⟩ : ∃ O1, O1 = O := ⟨_, rfl⟩
            generalize O[idxR O ck] = x at *
            generalize idxR O ck = i at *
            obtain ⟨xk, xv⟩ := x
            dsimp only at hcy hk hk2 hk3
            subst hO1
            go_upto_region 11 with (first | (go_at_call 70; (with_reducible apply Calls.mono (HX _ _ _ _ (rowV (hO.factOf (r := Row2 80 2 (some ⟨g0, 0, none⟩) on oc (O1.flatMap rwC)) pk_)) (hO.varAt (b := gc) (k := 0) (v := .string ck) (cs := [.string ck, .string cv, .bool cg]) (t := 46) pk_ rfl)); rintro e8 w8 ⟨rfl, hx8⟩; replace hO := hO.ext hx8; clear hx8; dsimp only; ((try clear hf); have hf := fa_ hO))) | ((refine sy_ hO ?_); clear hO; intro w9 hO; (try dsimp only [List.set] at hO); ((try clear hf); have hf := fa_ hO)))
            (refine wp_region_run (fun _ => True) (fun _ _ _ _ => trivial) trivial ((0, 0) :: (0, 1) :: (1, 2) :: (0, 3) :: (0, 4) :: (0, 5) :: (0, 6) :: (0, 7) :: (0, 8) :: (1, 9) :: (0, 10) :: (1, 11) :: (0, 12) :: (0, 13) :: []) (by kernel_rfl) (by kernel_rfl) rfl (fun _ _ d _ _ h => by cases d <;> exact h) ?_; intro w9 hx9; replace hO := hO.ext hx9; clear hx9; ((try clear hf); have hf := fa_ hO); (repeat (first | (apply inRun_p _ rfl rfl rfl; focus (intro w8 K8 hK8; (repeat (first | go_skip | go_guarded | go_step)); exact hK8)) | (apply inRun_l _ rfl rfl rfl; focus (intro w8 hx8 K8 hK8; have hO := hO.ext hx8; ((try clear hf); have hf := fa_ hO); obtain ⟨d0, d1⟩ := hcy _ (rowV (hO.factOf (r := Row2 80 2 (some ⟨g0, 0, none⟩) on oc (O1.flatMap rwC)) pk_)); (repeat (first | go_skip | go_guarded | go_step)); exact hK8)) | (apply inRun_q _ rfl; (focus (intro w8 hx8 K8 hK8; have hO := hO.ext hx8; ((try clear hf); have hf := fa_ hO); (repeat (first | go_skip | go_guarded | go_step | fail)); (first | exact xt_ | exact hK8 _ xt_))); (focus (exact rfl)); intro w8 hx8; replace hO := hO.ext hx8; clear hx8; ((try clear hf); have hf := fa_ hO)))))
            refine inRun_nil ?_
            have HIN : ∀ (a : Option Addr) (c g vc : Nat), Does Tryz.prog 73 #[.slice a on c, .int .i64 i, .slice (some ⟨g, 0, none⟩) 1 vc] [Row2 80 2 a on c (O1.flatMap rwC), Var g [.string ck, .string cv] 80] (fun p : Option Addr × Nat => (.slice p.1 (on + 1) p.2, [Row2 80 2 p.1 (on + 1) p.2 ((insR O1 i ⟨ck, cv⟩).flatMap rwC)])) := fun a c g vc => insertR_does a on c g vc i O1 ⟨ck, cv⟩ HN1.out (by omega) (by omega)
            have HIL := Lib.hid (insR_length O1 i ⟨ck, cv⟩ (by rw [HN1.out]; omega))
            cases cg with
            | true =>
              go_wp2_with (first | fail | ((refine sy_ hO ?_); clear hO; intro w9 hO; (try dsimp only [List.set] at hO); ((try clear hf); have hf := fa_ hO)))
              refine ⟨⟨j + 1, on, oc, (some ⟨g0, 0, none⟩), O1, rfl, by go_num, by omega, by omega, HN1, Lib.hid (e1.out.trans (E2.out.trans (if_pos rfl))).symm, ?_⟩, by simp [intOf]; omega⟩
              (try simp only [CA])
              exact hO.cut sb_
            | false =>
              go_wp2_with (first | fail | (go_at_call 73; (with_reducible apply Does.use hO (HIN _ _ _ _); (focus exact tk_); clear hO; intro x9 w9 hO; dsimp only at hO ⊢; simp only [CA] at hO; ((try clear hf); have hf := fa_ hO); (obtain ⟨pa, pc⟩ := x9; dsimp only at hO ⊢; ((try clear hf); have hf := fa_ hO)))) | ((refine sy_ hO ?_); clear hO; intro w9 hO; (try dsimp only [List.set] at hO); ((try clear hf); have hf := fa_ hO)))
              refine ⟨⟨j + 1, on + 1, pc, pa, insR O1 i ⟨ck, cv⟩, rfl, by go_num, by omega, by omega, Lib.hid (by rw [HIL.out, HN1.out]), Lib.hid (e1.out.trans (E2.out.trans (if_neg Bool.false_ne_true))).symm, ?_⟩, by simp [intOf]; omega⟩
              (try simp only [CA])
              exact hO.cut sb_
        · have hii := idxI_end (l := O) (k := ck) (by rw [HOn.out]; omega)
          rw [hii] at HX
          have hit := hitR_end (l := O) (k := ck) (by rw [HOn.out]; omega)
          have hio : idxR O ck = on := by omega
          have HN1 := HOn
          have E2 : Hid (appR O ⟨ck, cv, cg⟩ = if cg = true then O else insR O on ⟨ck, cv⟩) := Lib.hid (by rw [← e2.out, ← hio]; unfold stepR; rw [offR_no hit])
          clear e2 hit hii hio hi2 hie
          obtain ⟨i, hi⟩ : ∃ i, i = on := ⟨_, rfl⟩
          obtain ⟨O1, hO1⟩ : ∃ O1, O1 = O := ⟨_, rfl⟩
          subst hO1
          go_upto_region 11 with (first | (go_at_call 70; (with_reducible apply Calls.mono (HX _ _ _ _ (rowV (hO.factOf (r := Row2 80 2 oa on oc (O1.flatMap rwC)) pk_)) (hO.varAt (b := gc) (k := 0) (v := .string ck) (cs := [.string ck, .string cv, .bool cg]) (t := 46) pk_ rfl)); rintro e8 w8 ⟨rfl, hx8⟩; replace hO := hO.ext hx8; clear hx8; dsimp only; ((try clear hf); have hf := fa_ hO))) | ((refine sy_ hO ?_); clear hO; intro w9 hO; (try dsimp only [List.set] at hO); ((try clear hf); have hf := fa_ hO)))
          (refine wp_region_run (fun _ => True) (fun _ _ _ _ => trivial) trivial ((0, 0) :: (0, 1) :: (1, 2) :: (0, 3) :: (0, 4) :: (0, 5) :: (0, 6) :: (0, 7) :: (0, 8) :: (1, 9) :: (0, 10) :: (1, 11) :: (0, 12) :: (0, 13) :: []) (by kernel_rfl) (by kernel_rfl) rfl (fun _ _ d _ _ h => by cases d <;> exact h) ?_; intro w9 hx9; replace hO := hO.ext hx9; clear hx9; ((try clear hf); have hf := fa_ hO); (repeat (first | (apply inRun_p _ rfl rfl rfl; focus (intro w8 K8 hK8; (repeat (first | go_skip | go_guarded | go_step)); exact hK8)) | (apply inRun_l _ rfl rfl rfl; focus (intro w8 hx8 K8 hK8; have hO := hO.ext hx8; ((try clear hf); have hf := fa_ hO); skip; (repeat (first | go_skip | go_guarded | go_step)); exact hK8)) | (apply inRun_q _ rfl; (focus (intro w8 hx8 K8 hK8; have hO := hO.ext hx8; ((try clear hf); have hf := fa_ hO); (repeat (first | go_skip | go_guarded | go_step | fail)); (first | exact xt_ | exact hK8 _ xt_))); (focus (exact rfl)); intro w8 hx8; replace hO := hO.ext hx8; clear hx8; ((try clear hf); have hf := fa_ hO)))))
          refine inRun_nil ?_
          have HIN : ∀ (a : Option Addr) (c g vc : Nat), Does Tryz.prog 73 #[.slice a on c, .int .i64 on, .slice (some ⟨g, 0, none⟩) 1 vc] [Row2 80 2 a on c (O1.flatMap rwC), Var g [.string ck, .string cv] 80] (fun p : Option Addr × Nat => (.slice p.1 (on + 1) p.2, [Row2 80 2 p.1 (on + 1) p.2 ((insR O1 on ⟨ck, cv⟩).flatMap rwC)])) := fun a c g vc => insertR_does a on c g vc on O1 ⟨ck, cv⟩ HN1.out (by omega) (by omega)
          have HIL := Lib.hid (insR_length O1 on ⟨ck, cv⟩ (by rw [HN1.out]; omega))
          cases cg with
          | true =>
            go_wp2_with (first | fail | ((refine sy_ hO ?_); clear hO; intro w9 hO; (try dsimp only [List.set] at hO); ((try clear hf); have hf := fa_ hO)))
            refine ⟨⟨j + 1, on, oc, oa, O1, rfl, by go_num, by omega, by omega, HN1, Lib.hid (e1.out.trans (E2.out.trans (if_pos rfl))).symm, ?_⟩, by simp [intOf]; omega⟩
            (try simp only [CA])
            exact hO.cut sb_
          | false =>
            go_wp2_with (first | fail | (go_at_call 73; (with_reducible apply Does.use hO (HIN _ _ _ _); (focus exact tk_); clear hO; intro x9 w9 hO; dsimp only at hO ⊢; simp only [CA] at hO; ((try clear hf); have hf := fa_ hO); (obtain ⟨pa, pc⟩ := x9; dsimp only at hO ⊢; ((try clear hf); have hf := fa_ hO)))) | ((refine sy_ hO ?_); clear hO; intro w9 hO; (try dsimp only [List.set] at hO); ((try clear hf); have hf := fa_ hO)))
            refine ⟨⟨j + 1, on + 1, pc, pa, insR O1 on ⟨ck, cv⟩, rfl, by go_num, by omega, by omega, Lib.hid (by rw [HIL.out, HN1.out]), Lib.hid (e1.out.trans (E2.out.trans (if_neg Bool.false_ne_true))).symm, ?_⟩, by simp [intOf]; omega⟩
            (try simp only [CA])
            exact hO.cut sb_
    · have hOL : O = L := by
        rw [HO.out, List.take_of_length_le (by omega)]; exact HL.out
      subst hOL
      clear HO HL HB
      by_cases hmo : most ≤ on
      · obtain ⟨k, rfl⟩ : ∃ k : Nat, most = (k : Int) := ⟨most.toNat, by omega⟩
        have hk1 : k - 1 < O.length := by rw [HOn.out]; omega
        have hS := scnS_cut (L := O) (k := k) lo hi (by omega) (by rw [HOn.out]; omega)
        obtain ⟨g0, rfl, _⟩ := hO.rowAt (e := 80) (size := 2) (a := oa) (n := on) (cap := oc) (xs := O.flatMap rwC) pk_ (by omega)
        have hcy := fun w (h : ValsAt w (some ⟨g0, 0, none⟩) (O.flatMap rwC)) => rw_cells h hk1
        simp only [Nat.zero_add] at hcy
        have hrl := hO.rowLen (e := 80) (size := 2) (a := some ⟨g0, 0, none⟩) (n := on) (cap := oc) (xs := O.flatMap rwC) pk_
        have hrl1 := hrl.2.1
        clear hrl
        have hsz := HKS.out _ (List.getElem_mem hk1)
        generalize O[k - 1] = x at *
        obtain ⟨xk, xv⟩ := x
        dsimp only at hS hcy hsz
        have HPT : ∀ w, Calls Tryz.prog 75 #[.string xk] w fun e w' => e = .returned (.agg #[.string xk, .string (xk ++ nul)]) ∧ Ext w w' := fun w => point_any xk w (by omega)
        have HBT : ∀ w, Calls Tryz.prog 74 #[.agg #[.string lo, .string hi], .agg #[.string ⟨#[]⟩, .string (xk ++ nul)]] w fun e w' => e = .returned (.agg #[.string (Sp.both ⟨lo, hi⟩ ⟨⟨#[]⟩, xk ++ nul⟩).lo, .string (Sp.both ⟨lo, hi⟩ ⟨⟨#[]⟩, xk ++ nul⟩).hi]) ∧ Ext w w' := fun w => both_any lo hi ⟨#[]⟩ (xk ++ nul) w
        generalize Sp.both ⟨lo, hi⟩ ⟨⟨#[]⟩, xk ++ nul⟩ = sp at *
        obtain ⟨f1, f2, f3⟩ := scn_of (L := O) (R := R) h1 hS
        have HNT := vnote_does q p since C R sp hR
        have HF := Lib.hid (And.intro f1 (And.intro f2 f3))
        clear f1 f2 f3 hS hsz HKS
        generalize noteR R sp = R' at *
        generalize noteN R sp = N at *
        go_upto_region 18 with (((refine sy_ hO ?_); clear hO; intro w9 hO; (try dsimp only [List.set] at hO); ((try clear hf); have hf := fa_ hO)))
        (refine wp_region_run (fun _ => True) (fun _ _ _ _ => trivial) trivial ((1, 0) :: (0, 1) :: (0, 2) :: (0, 3) :: (0, 4) :: (0, 5) :: (1, 6) :: (3, 7) :: (0, 8) :: (0, 9) :: (3, 10) :: (5, 11) :: []) (by kernel_rfl) (by kernel_rfl) rfl (fun _ _ d _ _ h => by cases d <;> exact h) ?_; intro w9 hx9; replace hO := hO.ext hx9; clear hx9; ((try clear hf); have hf := fa_ hO); (repeat (first | (apply inRun_p _ rfl rfl rfl; focus (intro w8 K8 hK8; (repeat (first | go_skip | go_guarded | go_step)); exact hK8)) | (apply inRun_l _ rfl rfl rfl; focus (intro w8 hx8 K8 hK8; have hO := hO.ext hx8; ((try clear hf); have hf := fa_ hO); obtain ⟨d0, d1⟩ := hcy _ (rowV (hO.factOf (r := Row2 80 2 (some ⟨g0, 0, none⟩) on oc (O.flatMap rwC)) pk_)); (repeat (first | go_skip | go_guarded | go_step)); exact hK8)) | (apply inRun_q _ rfl; (focus (intro w8 hx8 K8 hK8; have hO := hO.ext hx8; ((try clear hf); have hf := fa_ hO); (repeat (first | go_skip | go_guarded | go_step | (first | (go_at_call 75; (with_reducible refine Calls.mono (HPT _) ?_; rintro e7 w7 ⟨rfl, hx7⟩; dsimp only)) | (go_at_call 74; (with_reducible refine Calls.mono (HBT _) ?_; rintro e7 w7 ⟨rfl, hx7⟩; dsimp only))))); (first | exact xt_ | exact hK8 _ xt_))); (focus (exact rfl)); intro w8 hx8; replace hO := hO.ext hx8; clear hx8; ((try clear hf); have hf := fa_ hO)))))
        (refine inRun_d rfl ?_; intro K8 hK8; (repeat (first | go_skip | go_guarded | go_step)); refine hK8 _ _ trivial ?_; clear hK8 K8; with_reducible apply inRun_set_own; (focus (exact st_ hO)); clear hO; intro w9 hO; (try dsimp only [List.set] at hO); ((try clear hf); have hf := fa_ hO))
        (repeat (first | (apply inRun_p _ rfl rfl rfl; focus (intro w8 K8 hK8; (repeat (first | go_skip | go_guarded | go_step)); exact hK8)) | (apply inRun_l _ rfl rfl rfl; focus (intro w8 hx8 K8 hK8; have hO := hO.ext hx8; ((try clear hf); have hf := fa_ hO); skip; (repeat (first | go_skip | go_guarded | go_step)); exact hK8)) | (apply inRun_q _ rfl; (focus (intro w8 hx8 K8 hK8; have hO := hO.ext hx8; ((try clear hf); have hf := fa_ hO); (repeat (first | go_skip | go_guarded | go_step | fail)); (first | exact xt_ | exact hK8 _ xt_))); (focus (exact rfl)); intro w8 hx8; replace hO := hO.ext hx8; clear hx8; ((try clear hf); have hf := fa_ hO))))
        refine inRun_nil ?_
        by_cases hN : N = 0
        · subst hN
          rw [show errV 0 = .nilIface from rfl] at HNT
          go_wp2_with (first | (go_at_call 76; (replace hO := hO.toView (C := C) (R := R) tk_; (go_at_call 76; (with_reducible apply Does.use hO (HNT); (focus exact tk_); clear hO; intro x9 w9 hO; dsimp only at hO ⊢; simp only [CA] at hO; ((try clear hf); have hf := fa_ hO))))) | ((refine sy_ hO ?_); clear hO; intro w9 hO; (try dsimp only [List.set] at hO); ((try clear hf); have hf := fa_ hO)))
          have hO := (hO.pick (r := Row2 80 2 (some ⟨g0, 0, none⟩) on oc (O.flatMap rwC)) pk_).rowCut k (by omega)
          rw [rws_take] at hO
          go_ret2
          rw [HF.out.1, HF.out.2.1, HF.out.2.2, if_pos (by trivial), show (k : Int).toNat = k from rfl]
          have hlk : (O.take k).length = k := by rw [List.length_take, HOn.out]; omega
          rw [hlk]
          refine ⟨(some ⟨g0, 0, none⟩, oc), rfl, ?_⟩
          (try simp only [CA])
          exact hO.cut sb_
        · obtain ⟨N, rfl⟩ : ∃ N', N = N' + 1 := ⟨N - 1, by omega⟩
          rw [show errV (N + 1) = .iface 127 (.int .i64 ((N + 1 : Nat) : Int)) from rfl] at HNT
          go_wp2_with (first | (go_at_call 76; (replace hO := hO.toView (C := C) (R := R) tk_; (go_at_call 76; (with_reducible apply Does.use hO (HNT); (focus exact tk_); clear hO; intro x9 w9 hO; dsimp only at hO ⊢; simp only [CA] at hO; ((try clear hf); have hf := fa_ hO))))) | ((refine sy_ hO ?_); clear hO; intro w9 hO; (try dsimp only [List.set] at hO); ((try clear hf); have hf := fa_ hO)))
          have hO := hO.nil 80 2
          go_ret2
          rw [HF.out.1, HF.out.2.1, HF.out.2.2, if_neg (by omega), show errV (N + 1) = .iface 127 (.int .i64 ((N + 1 : Nat) : Int)) from rfl]
          refine ⟨(none, 0), rfl, ?_⟩
          simp only [List.length_nil, List.flatMap_nil]
          (try simp only [CA])
          exact hO.cut sb_
      · have hS := scnS_all (L := O) (most := most) lo hi (by rw [HOn.out]; omega)
        obtain ⟨f1, f2, f3⟩ := scn_of (L := O) (R := R) h1 hS
        have HNT : Does Tryz.prog 76 #[.pointer (some ⟨q, 0, none⟩), .agg #[.string lo, .string hi]] [ViewR q p since C R] (fun _ : Unit => (errV (noteN R ⟨lo, hi⟩), [ViewR q p since C (noteR R ⟨lo, hi⟩)])) := vnote_does q p since C R ⟨lo, hi⟩ hR
        have HF := Lib.hid (And.intro f1 (And.intro f2 f3))
        clear f1 f2 f3 hS HKS
        generalize noteR R ⟨lo, hi⟩ = R' at *
        generalize noteN R ⟨lo, hi⟩ = N at *
        by_cases hN : N = 0
        · subst hN
          rw [show errV 0 = .nilIface from rfl] at HNT
          go_wp2_with (first | (go_at_call 76; (replace hO := hO.toView (C := C) (R := R) tk_; (go_at_call 76; (with_reducible apply Does.use hO (HNT); (focus exact tk_); clear hO; intro x9 w9 hO; dsimp only at hO ⊢; simp only [CA] at hO; ((try clear hf); have hf := fa_ hO))))) | ((refine sy_ hO ?_); clear hO; intro w9 hO; (try dsimp only [List.set] at hO); ((try clear hf); have hf := fa_ hO)))
          go_ret2
          rw [HF.out.1, HF.out.2.1, HF.out.2.2, if_pos (by trivial), List.take_of_length_le (by rw [HOn.out]; omega), HOn.out]
          refine ⟨(oa, oc), rfl, ?_⟩
          (try simp only [CA])
          exact hO.cut sb_
        · obtain ⟨N, rfl⟩ : ∃ N', N = N' + 1 := ⟨N - 1, by omega⟩
          rw [show errV (N + 1) = .iface 127 (.int .i64 ((N + 1 : Nat) : Int)) from rfl] at HNT
          go_wp2_with (first | (go_at_call 76; (replace hO := hO.toView (C := C) (R := R) tk_; (go_at_call 76; (with_reducible apply Does.use hO (HNT); (focus exact tk_); clear hO; intro x9 w9 hO; dsimp only at hO ⊢; simp only [CA] at hO; ((try clear hf); have hf := fa_ hO))))) | ((refine sy_ hO ?_); clear hO; intro w9 hO; (try dsimp only [List.set] at hO); ((try clear hf); have hf := fa_ hO)))
          have hO := hO.nil 80 2
          go_ret2
          rw [HF.out.1, HF.out.2.1, HF.out.2.2, if_neg (by omega), show errV (N + 1) = .iface 127 (.int .i64 ((N + 1 : Nat) : Int)) from rfl]
          refine ⟨(none, 0), rfl, ?_⟩
          simp only [List.length_nil, List.flatMap_nil]
          (try simp only [CA])
          exact hO.cut sb_
/-- Scan, whatever is asked. -/
theorem vwScan_does (q p since nn : Nat) (V : List (ByteArray × List Vn)) (C : List Ch) (R : List Sp) (lo hi : ByteArray) (most : Int) (L : List Rw) (hL : (inC lo hi C).foldl appR (scanV V (hasB lo hi) since) = L)
    (hnd : (V.map (·.1)).Nodup) (hC : C.length ≤ 1000) (hR : R.length ≤ 40) (hVl : V.length ≤ 50000) (hV : ∀ e ∈ V, e.2.length ≤ 100000) (hks : ∀ r ∈ L, r.key.size ≤ 300) :
    Does Tryz.prog 23 #[.pointer (some ⟨q, 0, none⟩), .agg #[.string lo, .string hi], .int .i64 most] [ViewR q p since C R, VerR p nn V]
      (fun x : Option Addr × Nat => (.tuple #[.slice x.1 (scnO L R lo hi most).length x.2, errV (scnN L R lo hi most)], [ViewR q p since C (scnB L R lo hi most), VerR p nn V, Row2 80 2 x.1 (scnO L R lo hi most).length x.2 ((scnO L R lo hi most).flatMap rwC)])) := by
  by_cases h1 : 1 ≤ most
  · exact vwScan_up q p since nn V C R lo hi most L hL hnd hC hR hVl hV hks h1
  · obtain ⟨f1, f2, f3⟩ := scn_low (L := L) (R := R) lo hi (show most < 1 by omega)
    rw [f1, f2, f3]
    intro S W w L0 hO
    refine (vwScan_low q p since nn V C R lo hi most (by omega) S W w L0 hO).mono ?_
    rintro e w' ⟨_, rfl, h⟩
    replace h := h.nil 80 2
    refine ⟨(none, 0), rfl, ?_⟩
    simp only [List.length_nil, List.flatMap_nil, List.cons_append, List.nil_append] at h ⊢
    exact h.cut sb_
end Go.Proofs.YtmknhibaoopjjaaGreatDoor
namespace Go.Proofs.YtmknhibaoopjjaaGreatDoor
open Go.RowKit
end Go.Proofs.YtmknhibaoopjjaaGreatDoor
namespace Go.Proofs.YtmknhibaoopjjaaGreatDoor
open Go.RowKit
end Go.Proofs.YtmknhibaoopjjaaGreatDoor
namespace Go.Proofs.YtmknhibaoopjjaaGreatDoor
open Go.RowKit
end Go.Proofs.YtmknhibaoopjjaaGreatDoor
namespace Go.Proofs.YtmknhibaoopjjaaGreatDoor
open Go.RowKit
/-- What is known between two acts. -/
structure VwInv (C M : List Ch) (R : List Sp) : Prop where
  ups : Ups C
  c12 : C.length ≤ 12
  r40 : R.length ≤ 40
  mups : Ups M
  m12 : M.length ≤ 12
  good : ∀ c ∈ C, c.key.size ≤ 300
  mgood : ∀ c ∈ M, c.key.size ≤ 300
theorem noteR_len {R : List Sp} (s : Sp) (h : R.length ≤ 40) : (noteR R s).length ≤ 40 := by
  unfold noteR
  split
  · exact h
  · split
    · exact h
    · rw [List.length_append, List.length_singleton]; omega
theorem putL_keep {C : List Ch} (c : Ch) (hU : Ups C) (h : C.length ≤ 12) : Ups (putL C c) ∧ (putL C c).length ≤ 12 := by
  unfold putL
  split
  · rename_i h1
    refine ⟨hU.put c, ?_⟩
    unfold putN at h1
    split at h1
    · omega
    · split at h1
      · omega
      · omega
  · exact ⟨hU, h⟩
theorem putL_mem {C : List Ch} {c x : Ch} (h : x ∈ putL C c) : x = c ∨ x ∈ C := by
  unfold putL at h
  split at h
  · exact mem_put h
  · exact .inr h
theorem VwInv.put {C M : List Ch} {R : List Sp} (h : VwInv C M R) (c : Ch) (hc : c.key.size ≤ 300) : VwInv (putL C c) M R :=
  ⟨(putL_keep c h.ups h.c12).1, (putL_keep c h.ups h.c12).2, h.r40, h.mups, h.m12, fun x hx => (putL_mem hx).elim (fun e => e ▸ hc) (h.good x), h.mgood⟩
theorem newV_nodup {rows : List Rw} (h : RUps rows) : ((newV rows).map (·.1)).Nodup := by
  unfold newV
  rw [List.map_map]
  exact h.keys
theorem newV_length (rows : List Rw) : (newV rows).length = rows.length := by unfold newV; rw [List.length_map]
theorem newV_len1 (rows : List Rw) : ∀ e ∈ newV rows, e.2.length ≤ 100000 := fun e he => by
  obtain ⟨r, _, rfl⟩ := List.mem_map.1 he
  exact Nat.le_trans (Nat.le_refl 1) (by omega)
theorem VwInv.read {C M : List Ch} {R : List Sp} (h : VwInv C M R) (k : ByteArray) : VwInv C M (getB C R k) := by
  refine ⟨h.ups, h.c12, ?_, h.mups, h.m12, h.good, h.mgood⟩
  unfold getB
  split
  · exact h.r40
  · split
    · exact h.r40
    · exact noteR_len _ h.r40
theorem VwInv.scan {C M : List Ch} {R : List Sp} (h : VwInv C M R) (L : List Rw) (lo hi : ByteArray) (most : Int) : VwInv C M (scnB L R lo hi most) := by
  refine ⟨h.ups, h.c12, ?_, h.mups, h.m12, h.good, h.mgood⟩
  unfold scnB
  split
  · exact h.r40
  · exact noteR_len _ h.r40
theorem VwInv.nil : VwInv [] [] [] := ⟨List.Pairwise.nil, Nat.zero_le _, Nat.zero_le _, List.Pairwise.nil, Nat.zero_le _, fun _ h => (List.not_mem_nil h).elim, fun _ h => (List.not_mem_nil h).elim⟩
end Go.Proofs.YtmknhibaoopjjaaGreatDoor
namespace Go.Proofs.YtmknhibaoopjjaaGreatDoor
open Go.RowKit
/-- What is found of a queue, where y stands in its row. -/
noncomputable def findN (y : ByteArray × Bool) (C : List Ch) (R : List Sp) (name : ByteArray) : Qu × Nat :=
  if ¬ NameOk name then (Qu.z, 3) else if (getG y C R (queB name)).2.2 ≠ 0 then (Qu.z, (getG y C R (queB name)).2.2) else if (getG y C R (queB name)).2.1 = false then (Qu.z, 5) else quOf (getG y C R (queB name)).1
noncomputable def findR (C : List Ch) (R : List Sp) (name : ByteArray) : List Sp := if ¬ NameOk name then R else getB C R (queB name)
theorem queB_size (a : ByteArray) : (queB a).size = a.size + 2 := by
  show (queB a).data.size = _
  unfold queB
  rw [ByteArray.data_append, ByteArray.data_append, Array.size_append, Array.size_append]
  show 1 + 1 + a.size = _
  omega
theorem getG_size {y : ByteArray × Bool} {C : List Ch} {R : List Sp} {k : ByteArray} (hy : y.1.size ≤ 100) (hC : ∀ c ∈ C, c.val.size ≤ 100) : (getG y C R k).1.size ≤ 100 := by
  unfold getG
  split
  · exact Nat.zero_le _
  · split
    · rename_i c hc
      exact hC c (List.mem_of_find?_eq_some hc)
    · split
      · exact Nat.zero_le _
      · exact hy
set_option maxHeartbeats 4000000 in
set_option maxRecDepth 100000 in
theorem qFind_does (q p since nn : Nat) (V : List (ByteArray × List Vn)) (C : List Ch) (R : List Sp) (name : ByteArray) (y : ByteArray × Bool) (hy : readV V (queB name) since = y) (hys : y.1.size ≤ 100) (hCs : ∀ c ∈ C, c.val.size ≤ 100)
    (hk : name.size ≤ 200) (hC : C.length ≤ 1000) (hU : Ups C) (hR : R.length ≤ 40) (hV : ∀ e ∈ V, e.2.length ≤ 1000000) {φ : World → Prop} (hφ : ∀ w, φ w → LibOk w) :
    Does Tryz.prog 115 #[.pointer (some ⟨q, 0, none⟩), .string name] [ViewR q p since C R, VerR p nn V, .imm φ]
      (fun _ : Unit => (.tuple #[(findN y C R name).1.v, errV (findN y C R name).2], [ViewR q p since C (findR C R name), VerR p nn V, .imm φ])) := by
  have HNM := fun w => name_any name w (by omega)
  have HQU := fun w => queue_any name w (by omega)
  have HGT := vget_does q p since nn V C R (queB name) (by rw [queB_size]; omega) hC hU hR hV hφ
  rw [getA_G, hy] at HGT
  have hgs := getG_size (R := R) (k := queB name) hys hCs
  unfold findN findR
  generalize queB name = k at *
  generalize getG y C R k = g at *
  generalize getB C R k = R' at *
  obtain ⟨g1, g2, g3⟩ := g
  dsimp only at HGT hgs ⊢
  by_cases hn : ¬ NameOk name
  · rw [decide_eq_false hn] at HNM
    rw [if_pos hn, if_pos hn]
    unfold Qu.v Qu.z
    rw [show errV 3 = .iface 127 (.int .i64 3) from rfl]
    clear HGT HQU hn
    intro S W w L0 hO; simp only [CA] at hO
    ((try clear hf); have hf := fa_ hO)
    go_enter Tryz.func115, Tryz.ntmps115
    go_wp2_with (first | (go_at_call 145; (with_reducible apply Calls.mono (HNM _); rintro e8 w8 ⟨rfl, rfl⟩; dsimp only)) | ((refine sy_ hO ?_); clear hO; intro w9 hO; (try dsimp only [List.set] at hO); ((try clear hf); have hf := fa_ hO)))
    (refine bodyPost_run rfl fun K hK => ?_; simp [results, Tryz.results115, go_sem, hf]; refine hK _ ⟨(), ?_, ?_⟩)
    · rfl
    · (try simp only [CA])
      exact hO.cut sb_
  · rw [decide_eq_true (Classical.not_not.1 hn)] at HNM
    rw [if_neg hn, if_neg hn]
    clear hn
    by_cases h3 : g3 ≠ 0
    · rw [if_pos h3]
      obtain ⟨N, rfl⟩ : ∃ N, g3 = N + 1 := ⟨g3 - 1, by omega⟩
      unfold Qu.v Qu.z
      rw [show errV (N + 1) = .iface 127 (.int .i64 ((N + 1 : Nat) : Int)) from rfl] at HGT ⊢
      generalize ((N + 1 : Nat) : Int) = M at *
      intro S W w L0 hO; simp only [CA] at hO
      ((try clear hf); have hf := fa_ hO)
      go_enter Tryz.func115, Tryz.ntmps115
      go_wp2_with (first | (go_at_call 145; (with_reducible apply Calls.mono (HNM _); rintro e8 w8 ⟨rfl, rfl⟩; dsimp only)) | (go_at_call 174; (with_reducible apply Calls.mono (HQU _); rintro e8 w8 ⟨rfl, rfl⟩; dsimp only)) | (go_at_call 27; (with_reducible apply Does.use hO (HGT); (focus exact tk_); clear hO; intro x9 w9 hO; dsimp only at hO ⊢; simp only [CA] at hO; ((try clear hf); have hf := fa_ hO))) | ((refine sy_ hO ?_); clear hO; intro w9 hO; (try dsimp only [List.set] at hO); ((try clear hf); have hf := fa_ hO)))
      (refine bodyPost_run rfl fun K hK => ?_; simp [results, Tryz.results115, go_sem, hf]; refine hK _ ⟨(), ?_, ?_⟩)
      · rfl
      · (try simp only [CA])
        exact hO.cut sb_
    · obtain rfl : g3 = 0 := by omega
      rw [if_neg h3]
      rw [show errV 0 = .nilIface from rfl] at HGT
      clear h3
      cases g2 with
      | false =>
        rw [if_pos rfl]
        unfold Qu.v Qu.z
        rw [show errV 5 = .iface 127 (.int .i64 5) from rfl]
        intro S W w L0 hO; simp only [CA] at hO
        ((try clear hf); have hf := fa_ hO)
        go_enter Tryz.func115, Tryz.ntmps115
        go_wp2_with (first | (go_at_call 145; (with_reducible apply Calls.mono (HNM _); rintro e8 w8 ⟨rfl, rfl⟩; dsimp only)) | (go_at_call 174; (with_reducible apply Calls.mono (HQU _); rintro e8 w8 ⟨rfl, rfl⟩; dsimp only)) | (go_at_call 27; (with_reducible apply Does.use hO (HGT); (focus exact tk_); clear hO; intro x9 w9 hO; dsimp only at hO ⊢; simp only [CA] at hO; ((try clear hf); have hf := fa_ hO))) | ((refine sy_ hO ?_); clear hO; intro w9 hO; (try dsimp only [List.set] at hO); ((try clear hf); have hf := fa_ hO)))
        (refine bodyPost_run rfl fun K hK => ?_; simp [results, Tryz.results115, go_sem, hf]; refine hK _ ⟨(), ?_, ?_⟩)
        · rfl
        · (try simp only [CA])
          exact hO.cut sb_
      | true =>
        rw [if_neg Bool.noConfusion]
        have HPQ := fun w h => qpar_any g1 hgs w h
        generalize quOf g1 = r at *
        obtain ⟨⟨ra, rb, rd⟩, rn⟩ := r
        unfold Qu.v at HPQ ⊢
        dsimp only at HPQ ⊢
        generalize errV rn = ev at *
        intro S W w L0 hO; simp only [CA] at hO
        ((try clear hf); have hf := fa_ hO)
        go_enter Tryz.func115, Tryz.ntmps115
        go_wp2_with (first | (go_at_call 145; (with_reducible apply Calls.mono (HNM _); rintro e8 w8 ⟨rfl, rfl⟩; dsimp only)) | (go_at_call 174; (with_reducible apply Calls.mono (HQU _); rintro e8 w8 ⟨rfl, rfl⟩; dsimp only)) | (go_at_call 27; (with_reducible apply Does.use hO (HGT); (focus exact tk_); clear hO; intro x9 w9 hO; dsimp only at hO ⊢; simp only [CA] at hO; ((try clear hf); have hf := fa_ hO))) | (go_at_call 175; (with_reducible apply Calls.mono (HPQ _ (hφ _ (Own.immOf (φ := φ) hO pk_))); rintro e8 w8 ⟨rfl, hx8⟩; replace hO := hO.ext hx8; clear hx8; dsimp only; ((try clear hf); have hf := fa_ hO))) | ((refine sy_ hO ?_); clear hO; intro w9 hO; (try dsimp only [List.set] at hO); ((try clear hf); have hf := fa_ hO)))
        (refine bodyPost_run rfl fun K hK => ?_; simp [results, Tryz.results115, go_sem, hf]; refine hK _ ⟨(), ?_, ?_⟩)
        · rfl
        · (try simp only [CA])
          exact hO.cut sb_
end Go.Proofs.YtmknhibaoopjjaaGreatDoor
namespace Go.Proofs.YtmknhibaoopjjaaGreatDoor
open Go.RowKit
noncomputable def putqN (C : List Ch) (name : ByteArray) (q : Qu) : Nat := if q.txt.2 ≠ 0 then q.txt.2 else putN C ⟨queB name, q.txt.1, false⟩
noncomputable def putqL (C : List Ch) (name : ByteArray) (q : Qu) : List Ch := if q.txt.2 ≠ 0 then C else putL C ⟨queB name, q.txt.1, false⟩
theorem Qu.txt_size (q : Qu) (hd : q.dead.size ≤ 50) : q.txt.1.size ≤ 100 := by
  unfold Qu.txt
  split
  · exact Nat.zero_le _
  · rename_i h
    unfold Qu.bad at h
    split
    · have h1 := itoaB_size 5 q.next.toNat (by omega)
      have h2 := itoaB_size 0 q.tries.toNat (by omega)
      have := rowS_size q.next.toNat q.tries.toNat q.dead
      dsimp only
      omega
    · exact Nat.zero_le _
theorem Ms.txt_size (m : Ms) : m.txt.1.size ≤ 100 := by
  unfold Ms.txt
  split
  · exact Nat.zero_le _
  · rename_i h
    unfold Ms.bad at h
    have h1 := itoaB_size 0 m.tries.toNat (by omega)
    have h2 := itoaB_size 6 m.until_.toNat (by omega)
    have := rowS_size m.tries.toNat m.until_.toNat m.body
    dsimp only
    omega
set_option maxHeartbeats 4000000 in
set_option maxRecDepth 100000 in
theorem qPut_does (q p since : Nat) (C : List Ch) (R : List Sp) (name : ByteArray) (u : Qu) (hd : u.dead.size ≤ 50) (hk : name.size ≤ 200) (hC : C.length ≤ 800) (hU : Ups C) {φ : World → Prop} (hφ : ∀ w, φ w → LibOk w) :
    Does Tryz.prog 122 #[.pointer (some ⟨q, 0, none⟩), .string name, u.v] [ViewR q p since C R, .imm φ] (fun _ : Unit => (errV (putqN C name u), [ViewR q p since (putqL C name u) R, .imm φ])) := by
  have HQU := fun w => queue_any name w (by omega)
  have HQT := fun w h => qtxt_any u hd w h
  have hts := u.txt_size hd
  unfold putqN putqL
  generalize u.txt = t at *
  obtain ⟨t1, t2⟩ := t
  dsimp only at HQT hts ⊢
  have HP := vPut_does q p since C R (queB name) t1 (by rw [queB_size]; omega) (by omega) hC hU hφ
  obtain ⟨ua, ub, ud⟩ := u
  unfold Qu.v at HQT ⊢
  dsimp only at HQT ⊢
  generalize queB name = k at *
  by_cases h0 : t2 ≠ 0
  · rw [if_pos h0, if_pos h0]
    obtain ⟨N, rfl⟩ : ∃ N, t2 = N + 1 := ⟨t2 - 1, by omega⟩
    rw [show errV (N + 1) = .iface 127 (.int .i64 ((N + 1 : Nat) : Int)) from rfl] at HQT ⊢
    generalize ((N + 1 : Nat) : Int) = M at *
    clear HP
    intro S W w L0 hO; simp only [CA] at hO
    ((try clear hf); have hf := fa_ hO)
    go_enter Tryz.func122, Tryz.ntmps122
    go_wp2_with (first | (go_at_call 181; (with_reducible apply Calls.mono (HQT _ (hφ _ (Own.immOf (φ := φ) hO pk_))); rintro e8 w8 ⟨rfl, hx8⟩; replace hO := hO.ext hx8; clear hx8; dsimp only; ((try clear hf); have hf := fa_ hO))) | ((refine sy_ hO ?_); clear hO; intro w9 hO; (try dsimp only [List.set] at hO); ((try clear hf); have hf := fa_ hO)))
    go_ret
    refine ⟨(), rfl, ?_⟩
    (try simp only [CA])
    exact hO.cut sb_
  · obtain rfl : t2 = 0 := by omega
    rw [if_neg h0, if_neg h0]
    rw [show errV 0 = .nilIface from rfl] at HQT
    clear h0
    generalize putL C ⟨k, t1, false⟩ = C' at *
    generalize errV (putN C ⟨k, t1, false⟩) = ev at *
    intro S W w L0 hO; simp only [CA] at hO
    ((try clear hf); have hf := fa_ hO)
    go_enter Tryz.func122, Tryz.ntmps122
    go_wp2_with (first | (go_at_call 181; (with_reducible apply Calls.mono (HQT _ (hφ _ (Own.immOf (φ := φ) hO pk_))); rintro e8 w8 ⟨rfl, hx8⟩; replace hO := hO.ext hx8; clear hx8; dsimp only; ((try clear hf); have hf := fa_ hO))) | (go_at_call 174; (with_reducible apply Calls.mono (HQU _); rintro e8 w8 ⟨rfl, rfl⟩; dsimp only)) | (go_at_call 20; (with_reducible apply Does.use hO (HP); (focus exact tk_); clear hO; intro x9 w9 hO; dsimp only at hO ⊢; simp only [CA] at hO; ((try clear hf); have hf := fa_ hO))) | ((refine sy_ hO ?_); clear hO; intro w9 hO; (try dsimp only [List.set] at hO); ((try clear hf); have hf := fa_ hO)))
    go_ret
    refine ⟨(), rfl, ?_⟩
    (try simp only [CA])
    exact hO.cut sb_
end Go.Proofs.YtmknhibaoopjjaaGreatDoor
namespace Go.Proofs.YtmknhibaoopjjaaGreatDoor
open Go.RowKit
theorem msgB_size (a : ByteArray) (n : Nat) : (msgB a n).size = a.size + 9 := by
  have h := six_size n
  unfold msgB
  rw [ByteArray.size_append, ByteArray.size_append, ByteArray.size_append, ByteArray.size_append, h]
  show 1 + 1 + (a.size + 1 + 6) = _
  omega
noncomputable def sendA (C : List Ch) (name : ByteArray) (u : Qu) (body : ByteArray) (til : Int) : Int × Nat × List Ch :=
  if u.next = 999999 then (0, 8, C) else if (Ms.txt ⟨0, 0, til, body⟩).2 ≠ 0 then (0, (Ms.txt ⟨0, 0, til, body⟩).2, C)
  else if putN C ⟨msgB name u.next.toNat, (Ms.txt ⟨0, 0, til, body⟩).1, false⟩ ≠ 0 then (0, putN C ⟨msgB name u.next.toNat, (Ms.txt ⟨0, 0, til, body⟩).1, false⟩, C)
  else (u.next, putqN (putL C ⟨msgB name u.next.toNat, (Ms.txt ⟨0, 0, til, body⟩).1, false⟩) name ⟨u.next + 1, u.tries, u.dead⟩, putqL (putL C ⟨msgB name u.next.toNat, (Ms.txt ⟨0, 0, til, body⟩).1, false⟩) name ⟨u.next + 1, u.tries, u.dead⟩)
theorem putL_no {C : List Ch} {c : Ch} (h : putN C c ≠ 0) : putL C c = C := by unfold putL; rw [if_neg h]
theorem putL_keep1 {C : List Ch} (c : Ch) (hU : Ups C) (h : C.length ≤ 700) : Ups (putL C c) ∧ (putL C c).length ≤ 800 := by
  unfold putL
  split
  · refine ⟨hU.put c, ?_⟩
    rename_i h1
    unfold putN at h1
    split at h1
    · omega
    · split at h1 <;> omega
  · exact ⟨hU, by omega⟩
set_option maxHeartbeats 4000000 in
set_option maxRecDepth 100000 in
theorem qsend_does (q p since : Nat) (C : List Ch) (R : List Sp) (name : ByteArray) (u : Qu) (body : ByteArray) (til : Int) (hu0 : 0 ≤ u.next) (hu : u.next ≤ 999999) (hd : u.dead.size ≤ 50) (hk : name.size ≤ 200) (hC : C.length ≤ 700) (hU : Ups C) {φ : World → Prop} (hφ : ∀ w, φ w → LibOk w) :
    Does Tryz.prog 126 #[.pointer (some ⟨q, 0, none⟩), .string name, u.v, .string body, .int .i64 til] [ViewR q p since C R, .imm φ]
      (fun _ : Unit => (.tuple #[.int .i64 (sendA C name u body til).1, errV (sendA C name u body til).2.1], [ViewR q p since (sendA C name u body til).2.2 R, .imm φ])) := by
  have HMT := fun w h => mtxt_any ⟨0, 0, til, body⟩ w h
  have HMG := fun w h => message_any name u.next w (by omega) h (by omega)
  have hts := Ms.txt_size ⟨0, 0, til, body⟩
  have hms := msgB_size name u.next.toNat
  have hkeep := fun c => putL_keep1 (C := C) c hU hC
  have hno := fun c => putL_no (C := C) (c := c)
  have hz := fun C' h1 h2 => qPut_does q p since C' R name ⟨u.next + 1, u.tries, u.dead⟩ hd hk h1 h2 hφ
  unfold sendA
  generalize Ms.txt ⟨0, 0, til, body⟩ = t at *
  obtain ⟨t1, t2⟩ := t
  dsimp only at HMT hts ⊢
  have HP := vPut_does q p since C R (msgB name u.next.toNat) t1 (by omega) (by omega) (by omega) hU hφ
  obtain ⟨un, ut, ud⟩ := u
  unfold Qu.v at hz ⊢
  unfold Ms.v at HMT
  dsimp only at *
  generalize msgB name un.toNat = k at *
  by_cases h9 : un = 999999
  · rw [if_pos h9]
    subst h9
    rw [show errV 8 = .iface 127 (.int .i64 8) from rfl]
    clear HP HMT HMG hz
    intro S W w L0 hO; simp only [CA] at hO
    ((try clear hf); have hf := fa_ hO)
    go_enter Tryz.func126, Tryz.ntmps126
    go_wp2_with (first | ((refine sy_ hO ?_); clear hO; intro w9 hO; (try dsimp only [List.set] at hO); ((try clear hf); have hf := fa_ hO)))
    go_ret2
    refine ⟨(), rfl, ?_⟩
    (try simp only [CA])
    exact hO.cut sb_
  · rw [if_neg h9]
    by_cases h0 : t2 ≠ 0
    · rw [if_pos h0]
      obtain ⟨N, rfl⟩ : ∃ N, t2 = N + 1 := ⟨t2 - 1, by omega⟩
      dsimp only
      rw [show errV (N + 1) = .iface 127 (.int .i64 ((N + 1 : Nat) : Int)) from rfl] at HMT ⊢
      generalize ((N + 1 : Nat) : Int) = M at *
      clear HP hz
      intro S W w L0 hO; simp only [CA] at hO
      ((try clear hf); have hf := fa_ hO)
      go_enter Tryz.func126, Tryz.ntmps126
      go_wp2_with (first | (go_at_call 182; (with_reducible apply Calls.mono (HMT _ (hφ _ (Own.immOf (φ := φ) hO pk_))); rintro e8 w8 ⟨rfl, hx8⟩; replace hO := hO.ext hx8; clear hx8; dsimp only; ((try clear hf); have hf := fa_ hO))) | ((refine sy_ hO ?_); clear hO; intro w9 hO; (try dsimp only [List.set] at hO); ((try clear hf); have hf := fa_ hO)))
      all_goals try (exfalso; omega; done)
      go_ret2
      refine ⟨(), rfl, ?_⟩
      (try simp only [CA])
      exact hO.cut sb_
    · obtain rfl : t2 = 0 := by omega
      rw [if_neg h0]
      rw [show errV 0 = .nilIface from rfl] at HMT
      clear h0
      have hkp := hkeep ⟨k, t1, false⟩
      have hn1 := hno ⟨k, t1, false⟩
      clear hkeep hno
      generalize putL C ⟨k, t1, false⟩ = C' at *
      generalize putN C ⟨k, t1, false⟩ = N at *
      by_cases hN : N ≠ 0
      · rw [if_pos hN]
        obtain rfl := hn1 hN
        obtain ⟨N, rfl⟩ : ∃ N', N = N' + 1 := ⟨N - 1, by omega⟩
        dsimp only
        rw [show errV (N + 1) = .iface 127 (.int .i64 ((N + 1 : Nat) : Int)) from rfl] at HP ⊢
        generalize ((N + 1 : Nat) : Int) = M at *
        clear hz
        intro S W w L0 hO; simp only [CA] at hO
        ((try clear hf); have hf := fa_ hO)
        go_enter Tryz.func126, Tryz.ntmps126
        go_wp2_with (first | (go_at_call 182; (with_reducible apply Calls.mono (HMT _ (hφ _ (Own.immOf (φ := φ) hO pk_))); rintro e8 w8 ⟨rfl, hx8⟩; replace hO := hO.ext hx8; clear hx8; dsimp only; ((try clear hf); have hf := fa_ hO))) | (go_at_call 129; (with_reducible apply Calls.mono (HMG _ (hφ _ (Own.immOf (φ := φ) hO pk_))); rintro e8 w8 ⟨rfl, hx8⟩; replace hO := hO.ext hx8; clear hx8; dsimp only; ((try clear hf); have hf := fa_ hO))) | (go_at_call 20; (with_reducible apply Does.use hO (HP); (focus exact tk_); clear hO; intro x9 w9 hO; dsimp only at hO ⊢; simp only [CA] at hO; ((try clear hf); have hf := fa_ hO))) | ((refine sy_ hO ?_); clear hO; intro w9 hO; (try dsimp only [List.set] at hO); ((try clear hf); have hf := fa_ hO)))
        all_goals try (exfalso; omega; done)
        go_ret2
        refine ⟨(), rfl, ?_⟩
        (try simp only [CA])
        exact hO.cut sb_
      · obtain rfl : N = 0 := by omega
        rw [if_neg hN]
        rw [show errV 0 = .nilIface from rfl] at HP
        have HZ := hz C' hkp.2 hkp.1
        clear hN hn1 hz hkp
        dsimp only
        generalize putqL C' name ⟨un + 1, ut, ud⟩ = C2 at *
        generalize errV (putqN C' name ⟨un + 1, ut, ud⟩) = ev at *
        intro S W w L0 hO; simp only [CA] at hO
        ((try clear hf); have hf := fa_ hO)
        go_enter Tryz.func126, Tryz.ntmps126
        go_wp2_with (first | (go_at_call 182; (with_reducible apply Calls.mono (HMT _ (hφ _ (Own.immOf (φ := φ) hO pk_))); rintro e8 w8 ⟨rfl, hx8⟩; replace hO := hO.ext hx8; clear hx8; dsimp only; ((try clear hf); have hf := fa_ hO))) | (go_at_call 129; (with_reducible apply Calls.mono (HMG _ (hφ _ (Own.immOf (φ := φ) hO pk_))); rintro e8 w8 ⟨rfl, hx8⟩; replace hO := hO.ext hx8; clear hx8; dsimp only; ((try clear hf); have hf := fa_ hO))) | (go_at_call 20; (with_reducible apply Does.use hO (HP); (focus exact tk_); clear hO; intro x9 w9 hO; dsimp only at hO ⊢; simp only [CA] at hO; ((try clear hf); have hf := fa_ hO))) | (go_at_call 122; (with_reducible apply Does.use hO (HZ); (focus exact tk_); clear hO; intro x9 w9 hO; dsimp only at hO ⊢; simp only [CA] at hO; ((try clear hf); have hf := fa_ hO))) | ((refine sy_ hO ?_); clear hO; intro w9 hO; (try dsimp only [List.set] at hO); ((try clear hf); have hf := fa_ hO)))
        all_goals try (exfalso; omega; done)
        go_ret2
        refine ⟨(), rfl, ?_⟩
        (try simp only [CA])
        exact hO.cut sb_
end Go.Proofs.YtmknhibaoopjjaaGreatDoor
namespace Go.Proofs.YtmknhibaoopjjaaGreatDoor
open Go.RowKit
def badT (t : Int) : Bool := decide (t < 0) || decide (1000000 < t)
def timeN (l : List Int) : Nat := if l.any badT then 1 else 0
theorem timeN_le (l : List Int) : timeN l ≤ 1 := by unfold timeN; split <;> omega
set_option maxHeartbeats 2000000 in
set_option maxRecDepth 100000 in
theorem time_any (a : Option Addr) (n c : Nat) (l : List Int) (w : World) (hl : l.length = n) (hn : n ≤ 1000) (hA : ValsAt w a (l.map (Value.int .i64))) :
    Calls Tryz.prog 123 #[.slice a n c] w fun e w' => e = .returned (errV (timeN l)) ∧ Ext w w' := by
  have hO : Own (fun _ => False) w w [.imm fun w => ValsAt w a (l.map (Value.int .i64))] := Own.base w _ fun w' hw' => vals_up hA hw'
  ((try clear hf); have hf := fa_ hO)
  go_enter Tryz.func123, Tryz.ntmps123
  go_wp2_with (first | ((refine sy_ hO ?_); clear hO; intro w9 hO; (try dsimp only [List.set] at hO); ((try clear hf); have hf := fa_ hO)))
  have hO9 := hO
  clear hO hf
  go_loopw [7] (fun v wr => ∃ k : Nat, v = .int .i64 k ∧ k ≤ n ∧ Hid ((l.drop k).any badT = l.any badT) ∧ Own (fun _ => False) w wr [.imm fun w => ValsAt w a (l.map (Value.int .i64))]) (fun v _ => n - (intOf v).toNat)
  case atStart => exact ⟨0, rfl, by omega, Lib.hid rfl, hO9⟩
  case round =>
    clear hO9
    obtain ⟨k, rfl, hk, HI, hO⟩ := hrel
    rename World => w0
    ((try clear hf); have hf := fa_ hO)
    by_cases hlt : k < n
    · have hk2 : k < l.length := by omega
      have hg : (l.map (Value.int .i64))[k]? = some (.int .i64 l[k]) := by rw [List.getElem?_map, List.getElem?_eq_getElem hk2]; rfl
      obtain ⟨b, off, rfl⟩ := ValsAt.some hf hg
      have c0 := ValsAt.get hf hg
      have hd : (l.drop k).any badT = (badT l[k] || (l.drop (k + 1)).any badT) := by rw [List.drop_eq_getElem_cons hk2, List.any_cons]
      have HD := Lib.hid (hd.symm.trans HI.out)
      clear hd hg HI
      generalize l[k] = t at *
      cases hb : badT t with
      | true =>
        rw [hb, Bool.true_or] at HD
        have HE := Lib.hid (show timeN l = 1 by unfold timeN; rw [← HD.out]; rfl)
        unfold badT at hb
        simp only [Bool.or_eq_true, decide_eq_true_eq] at hb
        go_wp2_with (first | ((refine sy_ hO ?_); clear hO; intro w9 hO; (try dsimp only [List.set] at hO); ((try clear hf); have hf := fa_ hO)))
        all_goals try (exfalso; omega; done)
        all_goals
          go_ret
          rw [HE.out]
          exact ⟨rfl, hO.toExt⟩
      | false =>
        rw [hb, Bool.false_or] at HD
        unfold badT at hb
        simp only [Bool.or_eq_false_iff, decide_eq_false_iff_not] at hb
        go_wp2_with (first | ((refine sy_ hO ?_); clear hO; intro w9 hO; (try dsimp only [List.set] at hO); ((try clear hf); have hf := fa_ hO)))
        all_goals try (exfalso; omega; done)
        exact ⟨⟨k + 1, by go_num, by omega, HD, hO⟩, by simp [intOf]; omega⟩
    · have e1 := HI.out
      rw [List.drop_of_length_le (by omega)] at e1
      have HE := Lib.hid (show timeN l = 0 by unfold timeN; rw [← e1]; rfl)
      clear e1
      go_wp2_with (first | ((refine sy_ hO ?_); clear hO; intro w9 hO; (try dsimp only [List.set] at hO); ((try clear hf); have hf := fa_ hO)))
      go_ret
      rw [HE.out]
      exact ⟨rfl, hO.toExt⟩
end Go.Proofs.YtmknhibaoopjjaaGreatDoor
namespace Go.Proofs.YtmknhibaoopjjaaGreatDoor
open Go.RowKit
theorem errV_or (n : Nat) : (n = 0 ∧ errV n = .nilIface) ∨ ∃ M : Int, n ≠ 0 ∧ errV n = .iface 127 (.int .i64 M) := by
  cases n with
  | zero => exact .inl ⟨rfl, rfl⟩
  | succ n => exact .inr ⟨((n + 1 : Nat) : Int), by omega, rfl⟩
set_option maxHeartbeats 4000000 in
set_option maxRecDepth 100000 in
theorem send1_does (b0 b1 b2 b3 b4 b5 b6 q p since : Nat) (C : List Ch) (R : List Sp) (name : ByteArray) (u : Qu) (body : ByteArray) (til : Int) (v5 v6 : Value) (hu0 : 0 ≤ u.next) (hu : u.next ≤ 999999) (hd : u.dead.size ≤ 50) (hk : name.size ≤ 200) (hC : C.length ≤ 700) (hU : Ups C) {φ : World → Prop} (hφ : ∀ w, φ w → LibOk w) :
    Does Tryz.prog 125 #[.pointer (some ⟨b0, 0, none⟩), .pointer (some ⟨b1, 0, none⟩), .pointer (some ⟨b2, 0, none⟩), .pointer (some ⟨b3, 0, none⟩), .pointer (some ⟨b4, 0, none⟩), .pointer (some ⟨b5, 0, none⟩), .pointer (some ⟨b6, 0, none⟩)] [Var b0 [.pointer (some ⟨q, 0, none⟩)] 27, Var b1 [.string name] 9, Var b2 [.int .i64 u.next, .int .i64 u.tries, .string u.dead] 187, Var b3 [.string body] 9, Var b4 [.int .i64 til] 3, Var b5 [v5] 3, Var b6 [v6] 42, ViewR q p since C R, .imm φ]
      (fun _ : Unit => (errV (sendA C name u body til).2.1, [Var b0 [.pointer (some ⟨q, 0, none⟩)] 27, Var b1 [.string name] 9, Var b2 [.int .i64 u.next, .int .i64 u.tries, .string u.dead] 187, Var b3 [.string body] 9, Var b4 [.int .i64 til] 3, Var b5 [.int .i64 (sendA C name u body til).1] 3, Var b6 [errV (sendA C name u body til).2.1] 42, ViewR q p since (sendA C name u body til).2.2 R, .imm φ])) := by
  have HS := qsend_does q p since C R name u body til hu0 hu hd hk hC hU hφ
  generalize sendA C name u body til = s at *
  obtain ⟨s1, s2, s3⟩ := s
  obtain ⟨un, ut, ud⟩ := u
  unfold Qu.v at HS
  dsimp only at HS ⊢
  rcases errV_or s2 with ⟨_, e⟩ | ⟨M, _, e⟩ <;> rw [e] at HS ⊢ <;> clear e
  · intro S W w L0 hO; simp only [CA] at hO
    ((try clear hf); have hf := fa_ hO)
    go_enter Tryz.func125, Tryz.ntmps125
    go_wp2_with (first | (go_at_call 126; (with_reducible apply Does.use hO (HS); (focus exact tk_); clear hO; intro x9 w9 hO; dsimp only at hO ⊢; simp only [CA] at hO; ((try clear hf); have hf := fa_ hO))) | ((refine sy_ hO ?_); clear hO; intro w9 hO; (try dsimp only [List.set] at hO); ((try clear hf); have hf := fa_ hO)))
    go_ret
    refine ⟨(), rfl, ?_⟩
    (try simp only [CA])
    exact hO.cut sb_
  · intro S W w L0 hO; simp only [CA] at hO
    ((try clear hf); have hf := fa_ hO)
    go_enter Tryz.func125, Tryz.ntmps125
    go_wp2_with (first | (go_at_call 126; (with_reducible apply Does.use hO (HS); (focus exact tk_); clear hO; intro x9 w9 hO; dsimp only at hO ⊢; simp only [CA] at hO; ((try clear hf); have hf := fa_ hO))) | ((refine sy_ hO ?_); clear hO; intro w9 hO; (try dsimp only [List.set] at hO); ((try clear hf); have hf := fa_ hO)))
    go_ret
    refine ⟨(), rfl, ?_⟩
    (try simp only [CA])
    exact hO.cut sb_
set_option maxHeartbeats 4000000 in
set_option maxRecDepth 100000 in
theorem allSend_does (b0 b1 b2 b3 b4 b5 b6 q p since : Nat) (C : List Ch) (R : List Sp) (name : ByteArray) (u : Qu) (body : ByteArray) (til : Int) (v5 v6 : Value) (hu0 : 0 ≤ u.next) (hu : u.next ≤ 999999) (hd : u.dead.size ≤ 50) (hk : name.size ≤ 200) (hC : C.length ≤ 700) (hU : Ups C) {φ : World → Prop} (hφ : ∀ w, φ w → LibOk w) :
    Does Tryz.prog 124 #[.pointer (some ⟨q, 0, none⟩), .func (.func 125) #[] #[.pointer (some ⟨b0, 0, none⟩), .pointer (some ⟨b1, 0, none⟩), .pointer (some ⟨b2, 0, none⟩), .pointer (some ⟨b3, 0, none⟩), .pointer (some ⟨b4, 0, none⟩), .pointer (some ⟨b5, 0, none⟩), .pointer (some ⟨b6, 0, none⟩)]] [Var b0 [.pointer (some ⟨q, 0, none⟩)] 27, Var b1 [.string name] 9, Var b2 [.int .i64 u.next, .int .i64 u.tries, .string u.dead] 187, Var b3 [.string body] 9, Var b4 [.int .i64 til] 3, Var b5 [v5] 3, Var b6 [v6] 42, ViewR q p since C R, .imm φ]
      (fun _ : Unit => (errV (sendA C name u body til).2.1, [Var b0 [.pointer (some ⟨q, 0, none⟩)] 27, Var b1 [.string name] 9, Var b2 [.int .i64 u.next, .int .i64 u.tries, .string u.dead] 187, Var b3 [.string body] 9, Var b4 [.int .i64 til] 3, Var b5 [.int .i64 (sendA C name u body til).1] 3, Var b6 [errV (sendA C name u body til).2.1] 42, ViewR q p since (if (sendA C name u body til).2.1 = 0 then (sendA C name u body til).2.2 else C) R, .imm φ])) := by
  have H1 := send1_does b0 b1 b2 b3 b4 b5 b6 q p since C R name u body til v5 v6 hu0 hu hd hk hC hU hφ
  have HMK := vMark_does q p since C R (by omega)
  have HBK := fun C' a c => vBack_does q p since C' R a c C (by omega)
  generalize sendA C name u body til = s at *
  obtain ⟨s1, s2, s3⟩ := s
  obtain ⟨un, ut, ud⟩ := u
  dsimp only at H1 ⊢
  rcases errV_or s2 with ⟨h0, e⟩ | ⟨M, h0, e⟩ <;> rw [e] at H1 ⊢ <;> clear e
  · rw [if_pos h0]
    intro S W w L0 hO; simp only [CA] at hO
    ((try clear hf); have hf := fa_ hO)
    go_enter Tryz.func124, Tryz.ntmps124
    go_wp2_with (first | (go_at_call 18; (with_reducible apply Does.use hO (HMK); (focus exact tk_); clear hO; intro x9 w9 hO; dsimp only at hO ⊢; simp only [CA] at hO; ((try clear hf); have hf := fa_ hO); (obtain ⟨ma, mc⟩ := x9; dsimp only at hO ⊢; ((try clear hf); have hf := fa_ hO)))) | (go_at_call 125; (with_reducible apply Does.use hO (H1); (focus exact tk_); clear hO; intro x9 w9 hO; dsimp only at hO ⊢; simp only [CA] at hO; ((try clear hf); have hf := fa_ hO))) | ((refine sy_ hO ?_); clear hO; intro w9 hO; (try dsimp only [List.set] at hO); ((try clear hf); have hf := fa_ hO)))
    go_ret
    refine ⟨(), rfl, ?_⟩
    (try simp only [CA])
    exact hO.cut sb_
  · rw [if_neg h0]
    intro S W w L0 hO; simp only [CA] at hO
    ((try clear hf); have hf := fa_ hO)
    go_enter Tryz.func124, Tryz.ntmps124
    go_upto_region 4 with (first | (go_at_call 18; (with_reducible apply Does.use hO (HMK); (focus exact tk_); clear hO; intro x9 w9 hO; dsimp only at hO ⊢; simp only [CA] at hO; ((try clear hf); have hf := fa_ hO); (obtain ⟨ma, mc⟩ := x9; dsimp only at hO ⊢; ((try clear hf); have hf := fa_ hO)))) | (go_at_call 125; (with_reducible apply Does.use hO (H1); (focus exact tk_); clear hO; intro x9 w9 hO; dsimp only at hO ⊢; simp only [CA] at hO; ((try clear hf); have hf := fa_ hO))) | ((refine sy_ hO ?_); clear hO; intro w9 hO; (try dsimp only [List.set] at hO); ((try clear hf); have hf := fa_ hO)))
    have hO := hO.rowCi (a := ma) (C := C) pk_
    ((try clear hf); have hf := fa_ hO)
    go_wp2_with (first | (go_at_call 26; (with_reducible apply Does.use hO (HBK _ _ _); (focus exact tk_); clear hO; intro x9 w9 hO; dsimp only at hO ⊢; simp only [CA] at hO; ((try clear hf); have hf := fa_ hO))) | ((refine sy_ hO ?_); clear hO; intro w9 hO; (try dsimp only [List.set] at hO); ((try clear hf); have hf := fa_ hO)))
    go_ret
    refine ⟨(), rfl, ?_⟩
    (try simp only [CA])
    exact hO.cut sb_
end Go.Proofs.YtmknhibaoopjjaaGreatDoor
namespace Go.Proofs.YtmknhibaoopjjaaGreatDoor
open Go.RowKit
noncomputable def SendA (y : ByteArray × Bool) (C : List Ch) (R : List Sp) (name body : ByteArray) (til : Int) : Int × Nat × List Ch :=
  if (findN y C R name).2 ≠ 0 then (0, (findN y C R name).2, C) else if timeN [til] ≠ 0 then (0, 1, C)
  else if (sendA C name (findN y C R name).1 body til).2.1 ≠ 0 then (0, (sendA C name (findN y C R name).1 body til).2.1, C)
  else ((sendA C name (findN y C R name).1 body til).1, 0, (sendA C name (findN y C R name).1 body til).2.2)
theorem findN_ok {y : ByteArray × Bool} {C : List Ch} {R : List Sp} {name : ByteArray} (h : (findN y C R name).2 = 0) : 0 ≤ (findN y C R name).1.next ∧ (findN y C R name).1.next ≤ 999999 ∧ (findN y C R name).1.dead.size ≤ 6 ∧ (findN y C R name).1.ok ∧ NameOk name := by
  unfold findN at *
  split at h
  · cases h
  · rename_i h1
    rw [if_neg h1]
    split at h
    · rename_i h2; exact absurd h h2
    · rename_i h2
      rw [if_neg h2]
      split at h
      · cases h
      · rename_i h3
        rw [if_neg h3]
        rcases quOf_cases (getG y C R (queB name)).1 with ⟨q, hq, hok, hds, _⟩ | ⟨hq, _⟩
        · rw [hq]
          have := hok.1
          unfold Qu.bad at this
          exact ⟨by dsimp only; omega, by dsimp only; omega, hds, hok, Classical.not_not.1 h1⟩
        · rw [hq] at h; cases h
theorem time_one {b : Nat} {t : TypeId} {til : Int} {w : World} (h : (Var b [.int .i64 til] t).facts w) : ValsAt w (some ⟨b, 0, none⟩) ([til].map (Value.int .i64)) :=
  .inr ⟨b, 0, rfl, fun i hi => Var.at (t := t) h i _ (List.getElem?_eq_getElem hi)⟩
set_option maxHeartbeats 4000000 in
set_option maxRecDepth 100000 in
theorem qSend_does (q p since nn : Nat) (V : List (ByteArray × List Vn)) (C : List Ch) (R : List Sp) (name body : ByteArray) (til : Int) (y : ByteArray × Bool) (hy : readV V (queB name) since = y) (hys : y.1.size ≤ 100) (hCs : ∀ c ∈ C, c.val.size ≤ 100)
    (hk : name.size ≤ 200) (hC : C.length ≤ 700) (hU : Ups C) (hR : R.length ≤ 40) (hV : ∀ e ∈ V, e.2.length ≤ 1000000) {φ : World → Prop} (hφ : ∀ w, φ w → LibOk w) :
    Does Tryz.prog 55 #[.pointer (some ⟨q, 0, none⟩), .string name, .string body, .int .i64 til] [ViewR q p since C R, VerR p nn V, .imm φ]
      (fun _ : Unit => (.tuple #[.int .i64 (SendA y C R name body til).1, errV (SendA y C R name body til).2.1], [ViewR q p since (SendA y C R name body til).2.2 (findR C R name), VerR p nn V, .imm φ])) := by
  have HF := qFind_does q p since nn V C R name y hy hys hCs hk (by omega) hU hR hV hφ
  have HTM := fun w b (h : (Var b [.int .i64 til] 3).facts w) => time_any (some ⟨b, 0, none⟩) 1 1 [til] w rfl (by omega) (time_one h)
  have hok := findN_ok (y := y) (C := C) (R := R) (name := name)
  have hAL := fun (b0 b1 b2 b3 b4 b5 b6 : Nat) (u : Qu) h1 h2 h3 => allSend_does b0 b1 b2 b3 b4 b5 b6 q p since C (findR C R name) name u body til (.int .i64 0) .nilIface h1 h2 h3 hk hC hU hφ
  unfold SendA
  generalize findN y C R name = f at *
  generalize findR C R name = R' at *
  obtain ⟨⟨un, ut, ud⟩, f2⟩ := f
  unfold Qu.v at HF
  dsimp only at HF hok ⊢
  rcases errV_or f2 with ⟨h0, e⟩ | ⟨M, h0, e⟩
  · rw [e] at HF
    rw [if_neg (show ¬ f2 ≠ 0 by omega)]
    obtain ⟨hu0, hu, hd, _, _⟩ := hok h0
    have HAL := fun (b0 b1 b2 b3 b4 b5 b6 : Nat) => hAL b0 b1 b2 b3 b4 b5 b6 ⟨un, ut, ud⟩ hu0 hu (show ud.size ≤ 50 by omega)
    clear hAL hok e h0
    rcases errV_or (timeN [til]) with ⟨h0, e⟩ | ⟨M, h0, e⟩
    · rw [e] at HTM
      rw [if_neg (show ¬ timeN [til] ≠ 0 by omega)]
      generalize sendA C name ⟨un, ut, ud⟩ body til = s at *
      obtain ⟨s1, s2, s3⟩ := s
      dsimp only at HAL ⊢
      clear e h0
      rcases errV_or s2 with ⟨h0, e⟩ | ⟨M, h0, e⟩
      · rw [e, if_pos h0] at HAL
        rw [if_neg (show ¬ s2 ≠ 0 by omega), show errV 0 = .nilIface from rfl]
        intro S W w L0 hO; simp only [CA] at hO
        ((try clear hf); have hf := fa_ hO)
        go_enter Tryz.func55, Tryz.ntmps55
        go_wp2_with (first | (go_at_call 115; (with_reducible apply Does.use hO (HF); (focus exact tk_); clear hO; intro x9 w9 hO; dsimp only at hO ⊢; simp only [CA] at hO; ((try clear hf); have hf := fa_ hO))) | (go_at_call 123; (with_reducible apply Calls.mono (HTM _ _ (hO.factOf (r := Var _ [.int .i64 til] 3) pk_)); rintro e8 w8 ⟨rfl, hx8⟩; replace hO := hO.ext hx8; clear hx8; dsimp only; ((try clear hf); have hf := fa_ hO))) | (go_at_call 124; (with_reducible apply Does.use hO (HAL _ _ _ _ _ _ _); (focus exact tk_); clear hO; intro x9 w9 hO; dsimp only at hO ⊢; simp only [CA] at hO; ((try clear hf); have hf := fa_ hO))) | ((refine sy_ hO ?_); clear hO; intro w9 hO; (try dsimp only [List.set] at hO); ((try clear hf); have hf := fa_ hO)))
        go_ret2
        refine ⟨(), rfl, ?_⟩
        (try simp only [CA])
        exact hO.cut sb_
      · rw [e, if_neg h0] at HAL
        rw [if_pos h0]
        dsimp only
        rw [e]
        intro S W w L0 hO; simp only [CA] at hO
        ((try clear hf); have hf := fa_ hO)
        go_enter Tryz.func55, Tryz.ntmps55
        go_wp2_with (first | (go_at_call 115; (with_reducible apply Does.use hO (HF); (focus exact tk_); clear hO; intro x9 w9 hO; dsimp only at hO ⊢; simp only [CA] at hO; ((try clear hf); have hf := fa_ hO))) | (go_at_call 123; (with_reducible apply Calls.mono (HTM _ _ (hO.factOf (r := Var _ [.int .i64 til] 3) pk_)); rintro e8 w8 ⟨rfl, hx8⟩; replace hO := hO.ext hx8; clear hx8; dsimp only; ((try clear hf); have hf := fa_ hO))) | (go_at_call 124; (with_reducible apply Does.use hO (HAL _ _ _ _ _ _ _); (focus exact tk_); clear hO; intro x9 w9 hO; dsimp only at hO ⊢; simp only [CA] at hO; ((try clear hf); have hf := fa_ hO))) | ((refine sy_ hO ?_); clear hO; intro w9 hO; (try dsimp only [List.set] at hO); ((try clear hf); have hf := fa_ hO)))
        (refine wp_region_run (fun _ => True) (fun _ _ _ _ => trivial) trivial ((1, 0) :: (0, 1) :: (0, 2) :: []) (by kernel_rfl) (by kernel_rfl) rfl (fun _ _ d _ _ h => by cases d <;> exact h) ?_; intro w9 hx9; replace hO := hO.ext hx9; clear hx9; ((try clear hf); have hf := fa_ hO); (repeat (first | (apply inRun_p _ rfl rfl rfl; focus (intro w8 K8 hK8; (repeat (first | go_skip | go_guarded | go_step)); exact hK8)) | (apply inRun_l _ rfl rfl rfl; focus (intro w8 hx8 K8 hK8; have hO := hO.ext hx8; ((try clear hf); have hf := fa_ hO); skip; (repeat (first | go_skip | go_guarded | go_step)); exact hK8)) | (apply inRun_q _ rfl; (focus (intro w8 hx8 K8 hK8; have hO := hO.ext hx8; ((try clear hf); have hf := fa_ hO); (repeat (first | go_skip | go_guarded | go_step | fail)); (first | exact xt_ | exact hK8 _ xt_))); (focus (exact rfl)); intro w8 hx8; replace hO := hO.ext hx8; clear hx8; ((try clear hf); have hf := fa_ hO))))); refine inRun_nil ?_; go_wp2_with (first | ((refine sy_ hO ?_); clear hO; intro w9 hO; (try dsimp only [List.set] at hO); ((try clear hf); have hf := fa_ hO)))
        go_ret2
        refine ⟨(), rfl, ?_⟩
        (try simp only [CA])
        exact hO.cut sb_
    · rw [if_pos (show timeN [til] ≠ 0 by omega)]
      have h1 : timeN [til] = 1 := by have := timeN_le [til]; omega
      rw [h1] at HTM
      rw [show errV 1 = .iface 127 (.int .i64 1) from rfl] at HTM ⊢
      clear HAL h0 e h1
      intro S W w L0 hO; simp only [CA] at hO
      ((try clear hf); have hf := fa_ hO)
      go_enter Tryz.func55, Tryz.ntmps55
      go_wp2_with (first | (go_at_call 115; (with_reducible apply Does.use hO (HF); (focus exact tk_); clear hO; intro x9 w9 hO; dsimp only at hO ⊢; simp only [CA] at hO; ((try clear hf); have hf := fa_ hO))) | (go_at_call 123; (with_reducible apply Calls.mono (HTM _ _ (hO.factOf (r := Var _ [.int .i64 til] 3) pk_)); rintro e8 w8 ⟨rfl, hx8⟩; replace hO := hO.ext hx8; clear hx8; dsimp only; ((try clear hf); have hf := fa_ hO))) | ((refine sy_ hO ?_); clear hO; intro w9 hO; (try dsimp only [List.set] at hO); ((try clear hf); have hf := fa_ hO)))
      (refine wp_region_run (fun _ => True) (fun _ _ _ _ => trivial) trivial ((1, 0) :: (0, 1) :: (0, 2) :: []) (by kernel_rfl) (by kernel_rfl) rfl (fun _ _ d _ _ h => by cases d <;> exact h) ?_; intro w9 hx9; replace hO := hO.ext hx9; clear hx9; ((try clear hf); have hf := fa_ hO); (repeat (first | (apply inRun_p _ rfl rfl rfl; focus (intro w8 K8 hK8; (repeat (first | go_skip | go_guarded | go_step)); exact hK8)) | (apply inRun_l _ rfl rfl rfl; focus (intro w8 hx8 K8 hK8; have hO := hO.ext hx8; ((try clear hf); have hf := fa_ hO); skip; (repeat (first | go_skip | go_guarded | go_step)); exact hK8)) | (apply inRun_q _ rfl; (focus (intro w8 hx8 K8 hK8; have hO := hO.ext hx8; ((try clear hf); have hf := fa_ hO); (repeat (first | go_skip | go_guarded | go_step | fail)); (first | exact xt_ | exact hK8 _ xt_))); (focus (exact rfl)); intro w8 hx8; replace hO := hO.ext hx8; clear hx8; ((try clear hf); have hf := fa_ hO))))); refine inRun_nil ?_; go_wp2_with (first | ((refine sy_ hO ?_); clear hO; intro w9 hO; (try dsimp only [List.set] at hO); ((try clear hf); have hf := fa_ hO)))
      go_ret2
      refine ⟨(), rfl, ?_⟩
      (try simp only [CA])
      exact hO.cut sb_
  · rw [e] at HF
    rw [if_pos h0]
    dsimp only
    rw [e]
    clear hAL hok HTM
    intro S W w L0 hO; simp only [CA] at hO
    ((try clear hf); have hf := fa_ hO)
    go_enter Tryz.func55, Tryz.ntmps55
    go_wp2_with (first | (go_at_call 115; (with_reducible apply Does.use hO (HF); (focus exact tk_); clear hO; intro x9 w9 hO; dsimp only at hO ⊢; simp only [CA] at hO; ((try clear hf); have hf := fa_ hO))) | ((refine sy_ hO ?_); clear hO; intro w9 hO; (try dsimp only [List.set] at hO); ((try clear hf); have hf := fa_ hO)))
    (refine wp_region_run (fun _ => True) (fun _ _ _ _ => trivial) trivial ((1, 0) :: (0, 1) :: (0, 2) :: []) (by kernel_rfl) (by kernel_rfl) rfl (fun _ _ d _ _ h => by cases d <;> exact h) ?_; intro w9 hx9; replace hO := hO.ext hx9; clear hx9; ((try clear hf); have hf := fa_ hO); (repeat (first | (apply inRun_p _ rfl rfl rfl; focus (intro w8 K8 hK8; (repeat (first | go_skip | go_guarded | go_step)); exact hK8)) | (apply inRun_l _ rfl rfl rfl; focus (intro w8 hx8 K8 hK8; have hO := hO.ext hx8; ((try clear hf); have hf := fa_ hO); skip; (repeat (first | go_skip | go_guarded | go_step)); exact hK8)) | (apply inRun_q _ rfl; (focus (intro w8 hx8 K8 hK8; have hO := hO.ext hx8; ((try clear hf); have hf := fa_ hO); (repeat (first | go_skip | go_guarded | go_step | fail)); (first | exact xt_ | exact hK8 _ xt_))); (focus (exact rfl)); intro w8 hx8; replace hO := hO.ext hx8; clear hx8; ((try clear hf); have hf := fa_ hO))))); refine inRun_nil ?_; go_wp2_with (first | ((refine sy_ hO ?_); clear hO; intro w9 hO; (try dsimp only [List.set] at hO); ((try clear hf); have hf := fa_ hO)))
    go_ret2
    refine ⟨(), rfl, ?_⟩
    (try simp only [CA])
    exact hO.cut sb_
end Go.Proofs.YtmknhibaoopjjaaGreatDoor
namespace Go.Proofs.YtmknhibaoopjjaaGreatDoor
open Go.RowKit
def goneC (name : ByteArray) (n : Int) : Ch := ⟨msgB name n.toNat, ⟨#[]⟩, true⟩
/-- A message that was tried too often: a fault, the changes, what was read. -/
noncomputable def buryA (B : ByteArray → ByteArray × Bool) (C : List Ch) (R : List Sp) (name : ByteArray) (u : Qu) (m : Ms) : Nat × List Ch × List Sp :=
  if putN C (goneC name m.num) ≠ 0 then (putN C (goneC name m.num), C, R)
  else if u.dead.size = 0 then (0, putL C (goneC name m.num), R)
  else if (findN (B (queB u.dead)) (putL C (goneC name m.num)) R u.dead).2 ≠ 0 then ((findN (B (queB u.dead)) (putL C (goneC name m.num)) R u.dead).2, putL C (goneC name m.num), findR (putL C (goneC name m.num)) R u.dead)
  else ((sendA (putL C (goneC name m.num)) u.dead (findN (B (queB u.dead)) (putL C (goneC name m.num)) R u.dead).1 m.body 0).2.1, (sendA (putL C (goneC name m.num)) u.dead (findN (B (queB u.dead)) (putL C (goneC name m.num)) R u.dead).1 m.body 0).2.2, findR (putL C (goneC name m.num)) R u.dead)
end Go.Proofs.YtmknhibaoopjjaaGreatDoor
namespace Go.Proofs.YtmknhibaoopjjaaGreatDoor
open Go.RowKit
theorem putL_len {C : List Ch} (c : Ch) (h : C.length ≤ 600) : (putL C c).length ≤ 600 := by
  unfold putL
  split
  · rename_i h1
    unfold putN at h1
    split at h1
    · rename_i h2; exact absurd h1 h2
    · split at h1
      · cases h1
      · omega
  · exact h
set_option maxHeartbeats 8000000 in
set_option maxRecDepth 100000 in
theorem qbury_no (q p since nn : Nat) (V : List (ByteArray × List Vn)) (B : ByteArray → ByteArray × Bool) (C : List Ch) (R : List Sp) (name : ByteArray) (u : Qu) (m : Ms) (hm0 : 0 ≤ m.num) (hm : m.num ≤ 999999)
    (hk : name.size ≤ 200) (hC : C.length ≤ 600) (hU : Ups C) (h1 : putN C (goneC name m.num) ≠ 0) {φ : World → Prop} (hφ : ∀ w, φ w → LibOk w) :
    Does Tryz.prog 130 #[.pointer (some ⟨q, 0, none⟩), .string name, u.v, m.v] [ViewR q p since C R, VerR p nn V, .imm φ]
      (fun _ : Unit => (errV (buryA B C R name u m).1, [ViewR q p since (buryA B C R name u m).2.1 (buryA B C R name u m).2.2, VerR p nn V, .imm φ])) := by
  have hms := msgB_size name m.num.toNat
  have HD := vDelete_does q p since C R (msgB name m.num.toNat) (by omega) (by omega) hU hφ
  have HMG := fun w h => message_any name m.num w (by omega) h (by omega)
  unfold buryA
  rw [if_pos h1]
  have hpl := putL_no h1
  unfold goneC at *
  rw [hpl] at HD
  generalize msgB name m.num.toNat = k at *
  obtain ⟨mn, mt, mu, mb⟩ := m
  obtain ⟨un, ut, ud⟩ := u
  unfold Ms.v Qu.v
  dsimp only at *
  rcases errV_or (putN C ⟨k, ⟨#[]⟩, true⟩) with ⟨h0, e⟩ | ⟨M, h0, e⟩
  · exact absurd h0 h1
  · rw [e] at HD ⊢
    clear e h0 h1 hpl
    intro S W w L0 hO; simp only [CA] at hO
    ((try clear hf); have hf := fa_ hO)
    go_enter Tryz.func130, Tryz.ntmps130
    go_wp2_with (first | (go_at_call 129; (with_reducible apply Calls.mono (HMG _ (hφ _ (Own.immOf (φ := φ) hO pk_))); rintro e8 w8 ⟨rfl, hx8⟩; replace hO := hO.ext hx8; clear hx8; dsimp only; ((try clear hf); have hf := fa_ hO))) | (go_at_call 22; (with_reducible apply Does.use hO (HD); (focus exact tk_); clear hO; intro x9 w9 hO; dsimp only at hO ⊢; simp only [CA] at hO; ((try clear hf); have hf := fa_ hO))) | ((refine sy_ hO ?_); clear hO; intro w9 hO; (try dsimp only [List.set] at hO); ((try clear hf); have hf := fa_ hO)))
    go_ret
    refine ⟨(), rfl, ?_⟩
    (try simp only [CA])
    exact hO.cut sb_
set_option maxHeartbeats 8000000 in
set_option maxRecDepth 100000 in
theorem qbury_nil (q p since nn : Nat) (V : List (ByteArray × List Vn)) (B : ByteArray → ByteArray × Bool) (C : List Ch) (R : List Sp) (name : ByteArray) (u : Qu) (m : Ms) (hm0 : 0 ≤ m.num) (hm : m.num ≤ 999999)
    (hk : name.size ≤ 200) (hC : C.length ≤ 600) (hU : Ups C) (h1 : putN C (goneC name m.num) = 0) (hd : u.dead.size = 0) {φ : World → Prop} (hφ : ∀ w, φ w → LibOk w) :
    Does Tryz.prog 130 #[.pointer (some ⟨q, 0, none⟩), .string name, u.v, m.v] [ViewR q p since C R, VerR p nn V, .imm φ]
      (fun _ : Unit => (errV (buryA B C R name u m).1, [ViewR q p since (buryA B C R name u m).2.1 (buryA B C R name u m).2.2, VerR p nn V, .imm φ])) := by
  have hms := msgB_size name m.num.toNat
  have HD := vDelete_does q p since C R (msgB name m.num.toNat) (by omega) (by omega) hU hφ
  have HMG := fun w h => message_any name m.num w (by omega) h (by omega)
  unfold buryA
  rw [if_neg (by rw [h1]; exact fun h => h rfl), if_pos hd]
  unfold goneC at *
  rw [h1] at HD
  generalize msgB name m.num.toNat = k at *
  obtain ⟨mn, mt, mu, mb⟩ := m
  obtain ⟨un, ut, ud⟩ := u
  unfold Ms.v Qu.v
  dsimp only at *
  rw [show errV 0 = .nilIface from rfl] at HD ⊢
  have hde : ud = ⟨#[]⟩ := ByteArray.ext (Array.eq_empty_of_size_eq_zero hd)
  subst hde
  generalize putL C ⟨k, ⟨#[]⟩, true⟩ = C' at *
  clear h1 hd
  intro S W w L0 hO; simp only [CA] at hO
  ((try clear hf); have hf := fa_ hO)
  go_enter Tryz.func130, Tryz.ntmps130
  go_wp2_with (first | (go_at_call 129; (with_reducible apply Calls.mono (HMG _ (hφ _ (Own.immOf (φ := φ) hO pk_))); rintro e8 w8 ⟨rfl, hx8⟩; replace hO := hO.ext hx8; clear hx8; dsimp only; ((try clear hf); have hf := fa_ hO))) | (go_at_call 22; (with_reducible apply Does.use hO (HD); (focus exact tk_); clear hO; intro x9 w9 hO; dsimp only at hO ⊢; simp only [CA] at hO; ((try clear hf); have hf := fa_ hO))) | ((refine sy_ hO ?_); clear hO; intro w9 hO; (try dsimp only [List.set] at hO); ((try clear hf); have hf := fa_ hO)))
  go_ret
  refine ⟨(), rfl, ?_⟩
  (try simp only [CA])
  exact hO.cut sb_
set_option maxHeartbeats 8000000 in
set_option maxRecDepth 100000 in
theorem qbury_lost (q p since nn : Nat) (V : List (ByteArray × List Vn)) (B : ByteArray → ByteArray × Bool) (C : List Ch) (R : List Sp) (name : ByteArray) (u : Qu) (m : Ms) (hm0 : 0 ≤ m.num) (hm : m.num ≤ 999999)
    (hk : name.size ≤ 200) (hC : C.length ≤ 600) (hU : Ups C) (h1 : putN C (goneC name m.num) = 0) (hd : u.dead.size ≠ 0) (hd2 : u.dead.size ≤ 6) (hy : ∀ k, readV V k since = B k) (hys : ∀ k, (B k).1.size ≤ 100) (hCs : ∀ c ∈ putL C (goneC name m.num), c.val.size ≤ 100) (hR : R.length ≤ 40) (hV : ∀ e ∈ V, e.2.length ≤ 1000000) (h2 : (findN (B (queB u.dead)) (putL C (goneC name m.num)) R u.dead).2 ≠ 0) {φ : World → Prop} (hφ : ∀ w, φ w → LibOk w) :
    Does Tryz.prog 130 #[.pointer (some ⟨q, 0, none⟩), .string name, u.v, m.v] [ViewR q p since C R, VerR p nn V, .imm φ]
      (fun _ : Unit => (errV (buryA B C R name u m).1, [ViewR q p since (buryA B C R name u m).2.1 (buryA B C R name u m).2.2, VerR p nn V, .imm φ])) := by
  have hms := msgB_size name m.num.toNat
  have HD := vDelete_does q p since C R (msgB name m.num.toNat) (by omega) (by omega) hU hφ
  have HMG := fun w h => message_any name m.num w (by omega) h (by omega)
  have hK := putL_keep1 (goneC name m.num) hU (by omega)
  have hl := putL_len (goneC name m.num) hC
  have HF := qFind_does q p since nn V (putL C (goneC name m.num)) R u.dead _ (hy _) (hys _) hCs (by omega) (by omega) hK.1 hR hV hφ
  unfold buryA
  rw [if_neg (by rw [h1]; exact fun h => h rfl), if_neg hd, if_pos h2]
  generalize findN (B (queB u.dead)) (putL C (goneC name m.num)) R u.dead = f at *
  generalize findR (putL C (goneC name m.num)) R u.dead = R2 at *
  clear hK hl hCs
  unfold goneC at *
  rw [h1, show errV 0 = .nilIface from rfl] at HD
  generalize msgB name m.num.toNat = k at *
  generalize putL C ⟨k, ⟨#[]⟩, true⟩ = C' at *
  obtain ⟨mn, mt, mu, mb⟩ := m
  obtain ⟨un, ut, ud⟩ := u
  obtain ⟨⟨fn, ft, fd⟩, f2⟩ := f
  unfold Ms.v Qu.v at *
  dsimp only at *
  have hne : ud.toList.isEmpty = false := by
    have hq : ud.toList.length = ud.size := by rw [ByteArray.toList_eq]; rfl
    cases hl : ud.toList with
    | nil => exact absurd (by rw [← hq, hl]; rfl) hd
    | cons _ _ => rfl
  rcases errV_or f2 with ⟨h0, e⟩ | ⟨M, h0, e⟩
  · exact absurd h0 h2
  · rw [e] at HF ⊢
    clear e h0 h1 h2 hd
    intro S W w L0 hO; simp only [CA] at hO
    ((try clear hf); have hf := fa_ hO)
    go_enter Tryz.func130, Tryz.ntmps130
    go_wp2_with (first | (go_at_call 129; (with_reducible apply Calls.mono (HMG _ (hφ _ (Own.immOf (φ := φ) hO pk_))); rintro e8 w8 ⟨rfl, hx8⟩; replace hO := hO.ext hx8; clear hx8; dsimp only; ((try clear hf); have hf := fa_ hO))) | (go_at_call 22; (with_reducible apply Does.use hO (HD); (focus exact tk_); clear hO; intro x9 w9 hO; dsimp only at hO ⊢; simp only [CA] at hO; ((try clear hf); have hf := fa_ hO))) | (go_at_call 115; (with_reducible apply Does.use hO (HF); (focus exact tk_); clear hO; intro x9 w9 hO; dsimp only at hO ⊢; simp only [CA] at hO; ((try clear hf); have hf := fa_ hO))) | ((refine sy_ hO ?_); clear hO; intro w9 hO; (try dsimp only [List.set] at hO); ((try clear hf); have hf := fa_ hO)))
    go_ret
    refine ⟨(), rfl, ?_⟩
    (try simp only [CA])
    exact hO.cut sb_
end Go.Proofs.YtmknhibaoopjjaaGreatDoor
namespace Go.Proofs.YtmknhibaoopjjaaGreatDoor
open Go.RowKit
theorem putL_len_ {C : List Ch} (c : Ch) (h : C.length ≤ 600) : (putL C c).length ≤ 600 := by
  unfold putL
  split
  · rename_i h1
    unfold putN at h1
    split at h1
    · rename_i h2; exact absurd h1 h2
    · split at h1
      · cases h1
      · omega
  · exact h
set_option maxHeartbeats 8000000 in
set_option maxRecDepth 100000 in
theorem qbury_sent (q p since nn : Nat) (V : List (ByteArray × List Vn)) (B : ByteArray → ByteArray × Bool) (C : List Ch) (R : List Sp) (name : ByteArray) (u : Qu) (m : Ms) (hm0 : 0 ≤ m.num) (hm : m.num ≤ 999999)
    (hk : name.size ≤ 200) (hC : C.length ≤ 600) (hU : Ups C) (h1 : putN C (goneC name m.num) = 0) (hd : u.dead.size ≠ 0) (hd2 : u.dead.size ≤ 6) (hy : ∀ k, readV V k since = B k) (hys : ∀ k, (B k).1.size ≤ 100) (hCs : ∀ c ∈ putL C (goneC name m.num), c.val.size ≤ 100) (hR : R.length ≤ 40) (hV : ∀ e ∈ V, e.2.length ≤ 1000000) (h2 : (findN (B (queB u.dead)) (putL C (goneC name m.num)) R u.dead).2 = 0) {φ : World → Prop} (hφ : ∀ w, φ w → LibOk w) :
    Does Tryz.prog 130 #[.pointer (some ⟨q, 0, none⟩), .string name, u.v, m.v] [ViewR q p since C R, VerR p nn V, .imm φ]
      (fun _ : Unit => (errV (buryA B C R name u m).1, [ViewR q p since (buryA B C R name u m).2.1 (buryA B C R name u m).2.2, VerR p nn V, .imm φ])) := by
  have hms := msgB_size name m.num.toNat
  have HD := vDelete_does q p since C R (msgB name m.num.toNat) (by omega) (by omega) hU hφ
  have HMG := fun w h => message_any name m.num w (by omega) h (by omega)
  have hK := putL_keep1 (goneC name m.num) hU (by omega)
  have hl := putL_len_ (goneC name m.num) hC
  have HF := qFind_does q p since nn V (putL C (goneC name m.num)) R u.dead _ (hy _) (hys _) hCs (by omega) (by omega) hK.1 hR hV hφ
  unfold buryA
  rw [if_neg (by rw [h1]; exact fun h => h rfl), if_neg hd, if_neg (by rw [h2]; exact fun h => h rfl)]
  obtain ⟨g0, g1, g2, _, _⟩ := findN_ok h2
  have HS := qsend_does q p since (putL C (goneC name m.num)) (findR (putL C (goneC name m.num)) R u.dead) u.dead (findN (B (queB u.dead)) (putL C (goneC name m.num)) R u.dead).1 m.body 0 g0 g1 (by omega) (by omega) (by omega) hK.1 hφ
  generalize findN (B (queB u.dead)) (putL C (goneC name m.num)) R u.dead = f at *
  generalize findR (putL C (goneC name m.num)) R u.dead = R2 at *
  clear hK hl hCs
  unfold goneC at *
  rw [h1, show errV 0 = .nilIface from rfl] at HD
  generalize msgB name m.num.toNat = k at *
  generalize putL C ⟨k, ⟨#[]⟩, true⟩ = C' at *
  obtain ⟨mn, mt, mu, mb⟩ := m
  obtain ⟨un, ut, ud⟩ := u
  obtain ⟨⟨fn, ft, fd⟩, f2⟩ := f
  unfold Ms.v Qu.v at *
  dsimp only at *
  have hne : ud.toList.isEmpty = false := by
    have hq : ud.toList.length = ud.size := by rw [ByteArray.toList_eq]; rfl
    cases hl : ud.toList with
    | nil => exact absurd (by rw [← hq, hl]; rfl) hd
    | cons _ _ => rfl
  rw [h2, show errV 0 = .nilIface from rfl] at HF
  generalize sendA C' ud ⟨fn, ft, fd⟩ mb 0 = sr at *
  obtain ⟨s1, s2, s3⟩ := sr
  clear h1 h2 hd g0 g1 g2
  dsimp only at *
  intro S W w L0 hO; simp only [CA] at hO
  ((try clear hf); have hf := fa_ hO)
  go_enter Tryz.func130, Tryz.ntmps130
  go_wp2_with (first | (go_at_call 129; (with_reducible apply Calls.mono (HMG _ (hφ _ (Own.immOf (φ := φ) hO pk_))); rintro e8 w8 ⟨rfl, hx8⟩; replace hO := hO.ext hx8; clear hx8; dsimp only; ((try clear hf); have hf := fa_ hO))) | (go_at_call 22; (with_reducible apply Does.use hO (HD); (focus exact tk_); clear hO; intro x9 w9 hO; dsimp only at hO ⊢; simp only [CA] at hO; ((try clear hf); have hf := fa_ hO))) | (go_at_call 115; (with_reducible apply Does.use hO (HF); (focus exact tk_); clear hO; intro x9 w9 hO; dsimp only at hO ⊢; simp only [CA] at hO; ((try clear hf); have hf := fa_ hO))) | (go_at_call 126; (with_reducible apply Does.use hO (HS); (focus exact tk_); clear hO; intro x9 w9 hO; dsimp only at hO ⊢; simp only [CA] at hO; ((try clear hf); have hf := fa_ hO))) | ((refine sy_ hO ?_); clear hO; intro w9 hO; (try dsimp only [List.set] at hO); ((try clear hf); have hf := fa_ hO)))
  go_ret
  refine ⟨(), rfl, ?_⟩
  (try simp only [CA])
  exact hO.cut sb_
end Go.Proofs.YtmknhibaoopjjaaGreatDoor
namespace Go.Proofs.YtmknhibaoopjjaaGreatDoor
open Go.RowKit
theorem qbury_does (q p since nn : Nat) (V : List (ByteArray × List Vn)) (B : ByteArray → ByteArray × Bool) (C : List Ch) (R : List Sp) (name : ByteArray) (u : Qu) (m : Ms) (hm0 : 0 ≤ m.num) (hm : m.num ≤ 999999)
    (hk : name.size ≤ 200) (hC : C.length ≤ 600) (hU : Ups C) (hd2 : u.dead.size ≤ 6) (hy : ∀ k, readV V k since = B k) (hys : ∀ k, (B k).1.size ≤ 100) (hCs : ∀ c ∈ putL C (goneC name m.num), c.val.size ≤ 100) (hR : R.length ≤ 40) (hV : ∀ e ∈ V, e.2.length ≤ 1000000) {φ : World → Prop} (hφ : ∀ w, φ w → LibOk w) :
    Does Tryz.prog 130 #[.pointer (some ⟨q, 0, none⟩), .string name, u.v, m.v] [ViewR q p since C R, VerR p nn V, .imm φ]
      (fun _ : Unit => (errV (buryA B C R name u m).1, [ViewR q p since (buryA B C R name u m).2.1 (buryA B C R name u m).2.2, VerR p nn V, .imm φ])) := by
  by_cases h1 : putN C (goneC name m.num) = 0
  · by_cases hd : u.dead.size = 0
    · exact qbury_nil q p since nn V B C R name u m hm0 hm hk hC hU h1 hd hφ
    · by_cases h2 : (findN (B (queB u.dead)) (putL C (goneC name m.num)) R u.dead).2 = 0
      · exact qbury_sent q p since nn V B C R name u m hm0 hm hk hC hU h1 hd hd2 hy hys hCs hR hV h2 hφ
      · exact qbury_lost q p since nn V B C R name u m hm0 hm hk hC hU h1 hd hd2 hy hys hCs hR hV h2 hφ
  · exact qbury_no q p since nn V B C R name u m hm0 hm hk hC hU h1 hφ
end Go.Proofs.YtmknhibaoopjjaaGreatDoor
