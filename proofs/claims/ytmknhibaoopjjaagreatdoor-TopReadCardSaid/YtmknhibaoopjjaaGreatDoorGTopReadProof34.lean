/- Texts View5, RView2, ViewSays, Views, ViewLaw, ReadL, TopRead of this claim, laid together. -/
import Derived.Test.YtmknhibaoopjjaaGreatDoorGTopReadProof30
import Derived.Test.YtmknhibaoopjjaaGreatDoorGTopReadProof28
import Derived.Test.YtmknhibaoopjjaaGreatDoorGTopReadProof32
import Derived.Test.YtmknhibaoopjjaaGreatDoorGTopReadProof33
set_option linter.unusedVariables false
set_option linter.unusedSimpArgs false
namespace Go.Proofs.YtmknhibaoopjjaaGreatDoor
open Go.RowKit
@[go_sem] theorem run_field_span (a b : ByteArray) (w : World) : (Instr.field 49 (.agg #[.string a, .string b]) 1).run Tryz.prog w = .ok (.string b) w := by kernel_rfl
theorem scnS_cut {L : List Rw} {k : Nat} (lo hi : ByteArray) (h1 : 1 ≤ k) (h2 : k ≤ L.length) : scnS L lo hi k = Sp.both ⟨lo, hi⟩ ⟨⟨#[]⟩, (L[k - 1]'(by omega)).key ++ nul⟩ := by
  unfold scnS
  rw [if_pos (by omega), show (k : Int).toNat - 1 = k - 1 from by omega, List.getD_eq_getElem?_getD, List.getElem?_eq_getElem (by omega)]
  rfl
theorem scnS_all {L : List Rw} {most : Int} (lo hi : ByteArray) (h : (L.length : Int) < most) : scnS L lo hi most = ⟨lo, hi⟩ := by
  unfold scnS; rw [if_neg (by omega)]
theorem scn_of {L : List Rw} {R : List Sp} {lo hi : ByteArray} {most : Int} {s : Sp} (h1 : 1 ≤ most) (hs : scnS L lo hi most = s) : scnN L R lo hi most = noteN R s ∧ scnB L R lo hi most = noteR R s ∧ scnO L R lo hi most = if noteN R s = 0 then L.take most.toNat else [] := by
  have e : scnN L R lo hi most = noteN R s := by unfold scnN; rw [if_neg (by omega), hs]
  refine ⟨e, ?_, ?_⟩
  · unfold scnB; rw [if_neg (by omega), hs]
  · unfold scnO; rw [e]
theorem scn_low {L : List Rw} {R : List Sp} (lo hi : ByteArray) {most : Int} (h : most < 1) : scnN L R lo hi most = 1 ∧ scnB L R lo hi most = R ∧ scnO L R lo hi most = [] := by
  have e : scnN L R lo hi most = 1 := by unfold scnN; rw [if_pos h]
  refine ⟨e, ?_, ?_⟩
  · unfold scnB; rw [if_pos h]
  · unfold scnO; rw [e]; rfl
theorem apps_ups : ∀ {C : List Ch} {l : List Rw}, RUps l → RUps (C.foldl appR l)
  | [], _, h => h
  | c :: C, l, h => apps_ups (C := C) (l := appR l c) (appF_ups h)
set_option maxHeartbeats 4000000 in
set_option maxRecDepth 100000 in
theorem vwScan_low (q p since nn : Nat) (V : List (ByteArray × List Vn)) (C : List Ch) (R : List Sp) (lo hi : ByteArray) (most : Int) (hm : most < 1) :
    Does Tryz.prog 23 #[.pointer (some ⟨q, 0, none⟩), .agg #[.string lo, .string hi], .int .i64 most] [ViewR q p since C R, VerR p nn V]
      (fun _ : Unit => (.tuple #[.slice none 0 0, errV 1], [ViewR q p since C R, VerR p nn V])) := by
  rw [show errV 1 = .iface 127 (.int .i64 1) from rfl]
  intro S W w L0 hO; simp only [CA] at hO
  ((try clear hf); have hf := fa_ hO)
  go_enter Tryz.func23, Tryz.ntmps23
  go_wp2_with (first | ((refine sy_ hO ?_); clear hO; intro w9 hO; (try dsimp only [List.set] at hO); ((try clear hf); have hf := fa_ hO)))
  go_ret2
  refine ⟨(), rfl, ?_⟩
  (try simp only [CA])
  exact hO.cut sb_
set_option maxHeartbeats 4000000 in
set_option maxRecDepth 100000 in
theorem vwScan_up (q p since nn : Nat) (V : List (ByteArray × List Vn)) (C : List Ch) (R : List Sp) (lo hi : ByteArray) (most : Int) (L : List Rw) (hL : (inC lo hi C).foldl appR (scanV V (hasB lo hi) since) = L)
    (hnd : (V.map (·.1)).Nodup) (hC : C.length ≤ 1000) (hR : R.length ≤ 40) (hVl : V.length ≤ 50000) (hV : ∀ e ∈ V, e.2.length ≤ 100000) (hks : ∀ r ∈ L, r.key.size ≤ 300) (h1 : 1 ≤ most) :
    Does Tryz.prog 23 #[.pointer (some ⟨q, 0, none⟩), .agg #[.string lo, .string hi], .int .i64 most] [ViewR q p since C R, VerR p nn V]
      (fun x : Option Addr × Nat => (.tuple #[.slice x.1 (scnO L R lo hi most).length x.2, errV (scnN L R lo hi most)], [ViewR q p since C (scnB L R lo hi most), VerR p nn V, Row2 80 2 x.1 (scnO L R lo hi most).length x.2 ((scnO L R lo hi most).flatMap rwC)])) := by
  have HSC := vscan_does p nn V lo hi since (by omega) hV
  have hbase := scanV_ups hnd (hasB lo hi) since
  have hblen := scanV_len V (hasB lo hi) since
  generalize scanV V (hasB lo hi) since = B at *
  have HL := Lib.hid hL
  have HKS := Lib.hid hks
  have HB := Lib.hid hbase
  clear hL hks hbase hnd hV
  intro S W w L0 hO
  simp only [CA] at hO
  obtain ⟨ca, cc, ra, rc, hO⟩ := hO.ofView (C := C) (R := R) (.here _ _)
  ((try clear hf); have hf := fa_ hO)
  go_enter Tryz.func23, Tryz.ntmps23
  go_wp2_with (first | ((refine sy_ hO ?_); clear hO; intro w9 hO; (try dsimp only [List.set] at hO); ((try clear hf); have hf := fa_ hO)))
  (refine wp_region_run (fun _ => True) (fun _ _ _ _ => trivial) trivial ((0, 0) :: (0, 1) :: (0, 2) :: (1, 3) :: (1, 4) :: (0, 5) :: (0, 6) :: (0, 7) :: (1, 8) :: (5, 9) :: (0, 10) :: []) (by kernel_rfl) (by kernel_rfl) rfl (fun _ _ d _ _ h => by cases d <;> exact h) ?_; intro w9 hx9; replace hO := hO.ext hx9; clear hx9; ((try clear hf); have hf := fa_ hO); (repeat (first | (apply inRun_p _ rfl rfl rfl; focus (intro w8 K8 hK8; (repeat (first | go_skip | go_guarded | go_step)); exact hK8)) | (apply inRun_l _ rfl rfl rfl; focus (intro w8 hx8 K8 hK8; have hO := hO.ext hx8; ((try clear hf); have hf := fa_ hO); skip; (repeat (first | go_skip | go_guarded | go_step)); exact hK8)) | (apply inRun_q _ rfl; (focus (intro w8 hx8 K8 hK8; have hO := hO.ext hx8; ((try clear hf); have hf := fa_ hO); (repeat (first | go_skip | go_guarded | go_step | fail)); (first | exact xt_ | exact hK8 _ xt_))); (focus (exact rfl)); intro w8 hx8; replace hO := hO.ext hx8; clear hx8; ((try clear hf); have hf := fa_ hO)))))
  (refine inRun_d rfl ?_; intro K8 hK8; (repeat (first | go_skip | go_guarded | go_step)); (go_at_call 68; (with_reducible apply Does.use hO (HSC); (focus exact tk_); clear hO; intro x9 w9 hO; dsimp only at hO ⊢; simp only [CA] at hO; ((try clear hf); have hf := fa_ hO); (obtain ⟨ba, bc⟩ := x9; dsimp only at hO ⊢; ((try clear hf); have hf := fa_ hO)))); (repeat go_step); refine hK8 _ _ trivial ?_; clear hK8 K8)
  (repeat (first | (apply inRun_p _ rfl rfl rfl; focus (intro w8 K8 hK8; (repeat (first | go_skip | go_guarded | go_step)); exact hK8)) | (apply inRun_l _ rfl rfl rfl; focus (intro w8 hx8 K8 hK8; have hO := hO.ext hx8; ((try clear hf); have hf := fa_ hO); skip; (repeat (first | go_skip | go_guarded | go_step)); exact hK8)) | (apply inRun_q _ rfl; (focus (intro w8 hx8 K8 hK8; have hO := hO.ext hx8; ((try clear hf); have hf := fa_ hO); (repeat (first | go_skip | go_guarded | go_step | fail)); (first | exact xt_ | exact hK8 _ xt_))); (focus (exact rfl)); intro w8 hx8; replace hO := hO.ext hx8; clear hx8; ((try clear hf); have hf := fa_ hO))))
  refine inRun_nil ?_
  go_wp2_with (first | ((refine sy_ hO ?_); clear hO; intro w9 hO; (try dsimp only [List.set] at hO); ((try clear hf); have hf := fa_ hO)))
  obtain ⟨g, hg9⟩ := (hO.pick (r := Var _ [.string lo, .string hi] 49) pk_).named
  rw [← hg9]; rw [← hg9] at hO; clear hg9
  have hO9 := hO
  clear hO hf HSC
  go_loopw [8, 31] (fun v8 v31 wr => ∃ (j on oc : Nat) (oa : Option Addr) (O : List Rw), v8 = .slice oa on oc ∧ v31 = .int .i64 j ∧ j ≤ C.length ∧ on ≤ 50000 + j ∧ Hid (O.length = on) ∧ Hid (O = (inC lo hi (C.take j)).foldl appR B) ∧ Own S W wr ([Var g [.string lo, .string hi] 49, Var q [.pointer (some ⟨p, 0, none⟩), .int .i64 since, .slice ca C.length cc, .slice ra R.length rc] 119, .imm (fun w => ChAt w ca C), Row2 49 2 ra R.length rc (R.flatMap spC), VerR p nn V, Row2 80 2 oa on oc (O.flatMap rwC)] ++ L0)) (fun _ v _ => C.length - (intOf v).toNat)
  case atStart => exact ⟨0, B.length, bc, ba, B, rfl, rfl, by omega, by omega, Lib.hid rfl, Lib.hid (by rw [List.take_zero]; rfl), by (try simp only [CA]); exact hO9.cut sb_⟩
  case round =>
    clear hO9
    obtain ⟨j, on, oc, oa, O, rfl, rfl, hj, hon, HOn, HO, hO⟩ := hrel
    rename World => w1
    simp only [CA] at hO
    ((try clear hf); have hf := fa_ hO)
    by_cases hlt : j < C.length
    · obtain ⟨b, off, rfl⟩ := ChAt.some (a := ca) (hO.immOf (φ := fun w => ChAt w ca C) pk_) (by omega)
      obtain ⟨c0, c1, c2⟩ := ChAt.at (b := b) (off := off) (hO.immOf (φ := fun w => ChAt w (some ⟨b, off, none⟩) C) pk_) hlt
      cases hh : hasB lo hi C[j].key with
      | false =>
        have e1 := Lib.hid (HO.out.trans (by rw [inC_no hlt hh] : (inC lo hi (C.take j)).foldl appR B = (inC lo hi (C.take (j + 1))).foldl appR B))
        have HH := fun w => hasB_any lo hi C[j].key w
        rw [hh] at HH
        clear HO hh
        generalize C[j] = c at *
        obtain ⟨ck, cv, cg⟩ := c
        dsimp only at *
        go_wp2_with (first | (go_at_call 69; (with_reducible apply Calls.mono (HH _); rintro e8 w8 ⟨rfl, hx8⟩; replace hO := hO.ext hx8; clear hx8; dsimp only; ((try clear hf); have hf := fa_ hO))) | ((refine sy_ hO ?_); clear hO; intro w9 hO; (try dsimp only [List.set] at hO); ((try clear hf); have hf := fa_ hO)))
        refine ⟨⟨j + 1, on, oc, oa, O, rfl, by go_num, by omega, by omega, HOn, e1, ?_⟩, by simp [intOf]; omega⟩
        (try simp only [CA])
        exact hO.cut sb_
      | true =>
        have HUO : RUps O := by rw [HO.out]; exact apps_ups HB.out
        have e1 := Lib.hid (show (inC lo hi (C.take (j + 1))).foldl appR B = appR O C[j] by rw [inC_yes hlt hh, List.foldl_append, ← HO.out]; rfl)
        have e2 := Lib.hid (stepR_app (c := C[j]) HUO)
        have HH := fun w => hasB_any lo hi C[j].key w
        rw [hh] at HH
        clear HUO HO hh
        generalize C[j] = c at *
        obtain ⟨ck, cv, cg⟩ := c
        dsimp only at *
        have HX := fun a c' g w h1 h2 => indexR_any a on c' O ck g w HOn.out (by omega) h1 h2
        have hie := idxR_le O ck
        rw [HOn.out] at hie
        go_upto_region 8 with (first | (go_at_call 69; (with_reducible apply Calls.mono (HH _); rintro e8 w8 ⟨rfl, hx8⟩; replace hO := hO.ext hx8; clear hx8; dsimp only; ((try clear hf); have hf := fa_ hO))) | ((refine sy_ hO ?_); clear hO; intro w9 hO; (try dsimp only [List.set] at hO); ((try clear hf); have hf := fa_ hO)))
        obtain ⟨gc, hg9⟩ := (hO.pick (r := Var _ [.string ck, .string cv, .bool cg] 46) pk_).named
        rw [← hg9]; rw [← hg9] at hO; clear hg9
        ((try clear hf); have hf := fa_ hO)
        by_cases hi2 : idxR O ck < on
        · have hii := idxI_hit (l := O) (k := ck) (by rw [HOn.out]; exact hi2)
          rw [hii] at HX
          clear hii
          obtain ⟨g0, rfl, _⟩ := hO.rowAt (e := 80) (size := 2) (a := oa) (n := on) (cap := oc) (xs := O.flatMap rwC) pk_ (by omega)
          have hi3 : idxR O ck < O.length := by rw [HOn.out]; exact hi2
          have hcy := fun w (h : ValsAt w (some ⟨g0, 0, none⟩) (O.flatMap rwC)) => rw_cells h hi3
          simp only [Nat.zero_add] at hcy
          have hat := hitR_at hi3
          cases hit : hitR O ck with
          | true =>
            rw [hit] at hat
            have hk : O[idxR O ck].key = ck := of_decide_eq_true hat.symm
            obtain ⟨O1, hO1⟩ : ∃ O1, O1 = offR O ck := ⟨_, rfl⟩
            have e3 : O1 = O.eraseIdx (idxR O ck) := by rw [hO1]; unfold offR; rw [if_pos hit]
            obtain ⟨n1, rfl⟩ : ∃ n1, on = n1 + 1 := ⟨on - 1, by omega⟩
            have HN1 := Lib.hid (show O1.length = n1 by rw [e3, List.length_eraseIdx, if_pos hi3, HOn.out]; omega)
            have HDL := fun c => deleteR_does g0 n1 c (idxR O ck) O HOn.out (by omega) (by omega)
            rw [← e3] at HDL
            clear e3 hat hit
            have E2 : Hid (appR O ⟨ck, cv, cg⟩ = if cg = true then O1 else insR O1 (idxR O ck) ⟨ck, cv⟩) := Lib.hid (by rw [← e2.out, hO1]; rfl)
            clear e2 hO1
            generalize O[idxR O ck] = x at *
            generalize idxR O ck = i at *
            obtain ⟨xk, xv⟩ := x
            dsimp only at hcy hk
            replace hk := hk.symm
            subst hk
            go_upto_region 11 with (first | (go_at_call 70; (with_reducible apply Calls.mono (HX _ _ _ _ (rowV (hO.factOf (r := Row2 80 2 (some ⟨g0, 0, none⟩) (n1 + 1) oc (O.flatMap rwC)) pk_)) (hO.varAt (b := gc) (k := 0) (v := .string ck) (cs := [.string ck, .string cv, .bool cg]) (t := 46) pk_ rfl)); rintro e8 w8 ⟨rfl, hx8⟩; replace hO := hO.ext hx8; clear hx8; dsimp only; ((try clear hf); have hf := fa_ hO))) | ((refine sy_ hO ?_); clear hO; intro w9 hO; (try dsimp only [List.set] at hO); ((try clear hf); have hf := fa_ hO)))
            (refine wp_region_run (fun _ => True) (fun _ _ _ _ => trivial) trivial ((0, 0) :: (0, 1) :: (1, 2) :: (0, 3) :: (0, 4) :: (0, 5) :: (0, 6) :: (0, 7) :: (0, 8) :: (1, 9) :: (0, 10) :: (1, 11) :: (0, 12) :: (0, 13) :: []) (by kernel_rfl) (by kernel_rfl) rfl (fun _ _ d _ _ h => by cases d <;> exact h) ?_; intro w9 hx9; replace hO := hO.ext hx9; clear hx9; ((try clear hf); have hf := fa_ hO); (repeat (first | (apply inRun_p _ rfl rfl rfl; focus (intro w8 K8 hK8; (repeat (first | go_skip | go_guarded | go_step)); exact hK8)) | (apply inRun_l _ rfl rfl rfl; focus (intro w8 hx8 K8 hK8; have hO := hO.ext hx8; ((try clear hf); have hf := fa_ hO); obtain ⟨d0, d1⟩ := hcy _ (rowV (hO.factOf (r := Row2 80 2 (some ⟨g0, 0, none⟩) (n1 + 1) oc (O.flatMap rwC)) pk_)); (repeat (first | go_skip | go_guarded | go_step)); exact hK8)) | (apply inRun_q _ rfl; (focus (intro w8 hx8 K8 hK8; have hO := hO.ext hx8; ((try clear hf); have hf := fa_ hO); (repeat (first | go_skip | go_guarded | go_step | fail)); (first | exact xt_ | exact hK8 _ xt_))); (focus (exact rfl)); intro w8 hx8; replace hO := hO.ext hx8; clear hx8; ((try clear hf); have hf := fa_ hO)))))
            refine inRun_nil ?_
            have HIN : ∀ (a : Option Addr) (c g vc : Nat), Does Tryz.prog 73 #[.slice a n1 c, .int .i64 i, .slice (some ⟨g, 0, none⟩) 1 vc] [Row2 80 2 a n1 c (O1.flatMap rwC), Var g [.string ck, .string cv] 80] (fun p : Option Addr × Nat => (.slice p.1 (n1 + 1) p.2, [Row2 80 2 p.1 (n1 + 1) p.2 ((insR O1 i ⟨ck, cv⟩).flatMap rwC)])) := fun a c g vc => insertR_does a n1 c g vc i O1 ⟨ck, cv⟩ HN1.out (by omega) (by omega)
            have HIL := Lib.hid (insR_length O1 i ⟨ck, cv⟩ (by rw [HN1.out]; omega))
            cases cg with
            | true =>
              go_wp2_with (first | (go_at_call 72; (with_reducible apply Does.use hO (HDL _); (focus exact tk_); clear hO; intro x9 w9 hO; dsimp only at hO ⊢; simp only [CA] at hO; ((try clear hf); have hf := fa_ hO))) | ((refine sy_ hO ?_); clear hO; intro w9 hO; (try dsimp only [List.set] at hO); ((try clear hf); have hf := fa_ hO)))
              refine ⟨⟨j + 1, n1, oc, (some ⟨g0, 0, none⟩), O1, rfl, by go_num, by omega, by omega, HN1, Lib.hid (e1.out.trans (E2.out.trans (if_pos rfl))).symm, ?_⟩, by simp [intOf]; omega⟩
              (try simp only [CA])
              exact hO.cut sb_
            | false =>
              go_wp2_with (first | (go_at_call 72; (with_reducible apply Does.use hO (HDL _); (focus exact tk_); clear hO; intro x9 w9 hO; dsimp only at hO ⊢; simp only [CA] at hO; ((try clear hf); have hf := fa_ hO))) | (go_at_call 73; (with_reducible apply Does.use hO (HIN _ _ _ _); (focus exact tk_); clear hO; intro x9 w9 hO; dsimp only at hO ⊢; simp only [CA] at hO; ((try clear hf); have hf := fa_ hO); (obtain ⟨pa, pc⟩ := x9; dsimp only at hO ⊢; ((try clear hf); have hf := fa_ hO)))) | ((refine sy_ hO ?_); clear hO; intro w9 hO; (try dsimp only [List.set] at hO); ((try clear hf); have hf := fa_ hO)))
              refine ⟨⟨j + 1, n1 + 1, pc, pa, insR O1 i ⟨ck, cv⟩, rfl, by go_num, by omega, by omega, Lib.hid (by rw [HIL.out, HN1.out]), Lib.hid (e1.out.trans (E2.out.trans (if_neg Bool.false_ne_true))).symm, ?_⟩, by simp [intOf]; omega⟩
              (try simp only [CA])
              exact hO.cut sb_
          | false =>
            rw [hit] at hat
            have hk : ¬ O[idxR O ck].key = ck := of_decide_eq_false hat.symm
            have hk2 : ¬ O[idxR O ck].key.toList = ck.toList := fun h => hk (toList_inj h)
            have hk3 : (O[idxR O ck].key.toList == ck.toList) = false := by simpa using hk2
            have HN1 := HOn
            have E2 : Hid (appR O ⟨ck, cv, cg⟩ = if cg = true then O else insR O (idxR O ck) ⟨ck, cv⟩) := Lib.hid (by rw [← e2.out, ← offR_no hit]; unfold stepR; rw [offR_no hit, offR_no hit])
            clear e2 hat hit
            obtain ⟨O1, hO1⟩ : ∃ O1, O1 = O := ⟨_, rfl⟩
            generalize O[idxR O ck] = x at *
            generalize idxR O ck = i at *
            obtain ⟨xk, xv⟩ := x
            dsimp only at hcy hk hk2 hk3
            subst hO1
            go_upto_region 11 with (first | (go_at_call 70; (with_reducible apply Calls.mono (HX _ _ _ _ (rowV (hO.factOf (r := Row2 80 2 (some ⟨g0, 0, none⟩) on oc (O1.flatMap rwC)) pk_)) (hO.varAt (b := gc) (k := 0) (v := .string ck) (cs := [.string ck, .string cv, .bool cg]) (t := 46) pk_ rfl)); rintro e8 w8 ⟨rfl, hx8⟩; replace hO := hO.ext hx8; clear hx8; dsimp only; ((try clear hf); have hf := fa_ hO))) | ((refine sy_ hO ?_); clear hO; intro w9 hO; (try dsimp only [List.set] at hO); ((try clear hf); have hf := fa_ hO)))
            (refine wp_region_run (fun _ => True) (fun _ _ _ _ => trivial) trivial ((0, 0) :: (0, 1) :: (1, 2) :: (0, 3) :: (0, 4) :: (0, 5) :: (0, 6) :: (0, 7) :: (0, 8) :: (1, 9) :: (0, 10) :: (1, 11) :: (0, 12) :: (0, 13) :: []) (by kernel_rfl) (by kernel_rfl) rfl (fun _ _ d _ _ h => by cases d <;> exact h) ?_; intro w9 hx9; replace hO := hO.ext hx9; clear hx9; ((try clear hf); have hf := fa_ hO); (repeat (first | (apply inRun_p _ rfl rfl rfl; focus (intro w8 K8 hK8; (repeat (first | go_skip | go_guarded | go_step)); exact hK8)) | (apply inRun_l _ rfl rfl rfl; focus (intro w8 hx8 K8 hK8; have hO := hO.ext hx8; ((try clear hf); have hf := fa_ hO); obtain ⟨d0, d1⟩ := hcy _ (rowV (hO.factOf (r := Row2 80 2 (some ⟨g0, 0, none⟩) on oc (O1.flatMap rwC)) pk_)); (repeat (first | go_skip | go_guarded | go_step)); exact hK8)) | (apply inRun_q _ rfl; (focus (intro w8 hx8 K8 hK8; have hO := hO.ext hx8; ((try clear hf); have hf := fa_ hO); (repeat (first | go_skip | go_guarded | go_step | fail)); (first | exact xt_ | exact hK8 _ xt_))); (focus (exact rfl)); intro w8 hx8; replace hO := hO.ext hx8; clear hx8; ((try clear hf); have hf := fa_ hO)))))
            refine inRun_nil ?_
            have HIN : ∀ (a : Option Addr) (c g vc : Nat), Does Tryz.prog 73 #[.slice a on c, .int .i64 i, .slice (some ⟨g, 0, none⟩) 1 vc] [Row2 80 2 a on c (O1.flatMap rwC), Var g [.string ck, .string cv] 80] (fun p : Option Addr × Nat => (.slice p.1 (on + 1) p.2, [Row2 80 2 p.1 (on + 1) p.2 ((insR O1 i ⟨ck, cv⟩).flatMap rwC)])) := fun a c g vc => insertR_does a on c g vc i O1 ⟨ck, cv⟩ HN1.out (by omega) (by omega)
            have HIL := Lib.hid (insR_length O1 i ⟨ck, cv⟩ (by rw [HN1.out]; omega))
            cases cg with
            | true =>
              go_wp2_with (first | fail | ((refine sy_ hO ?_); clear hO; intro w9 hO; (try dsimp only [List.set] at hO); ((try clear hf); have hf := fa_ hO)))
              refine ⟨⟨j + 1, on, oc, (some ⟨g0, 0, none⟩), O1, rfl, by go_num, by omega, by omega, HN1, Lib.hid (e1.out.trans (E2.out.trans (if_pos rfl))).symm, ?_⟩, by simp [intOf]; omega⟩
              (try simp only [CA])
              exact hO.cut sb_
            | false =>
              go_wp2_with (first | fail | (go_at_call 73; (with_reducible apply Does.use hO (HIN _ _ _ _); (focus exact tk_); clear hO; intro x9 w9 hO; dsimp only at hO ⊢; simp only [CA] at hO; ((try clear hf); have hf := fa_ hO); (obtain ⟨pa, pc⟩ := x9; dsimp only at hO ⊢; ((try clear hf); have hf := fa_ hO)))) | ((refine sy_ hO ?_); clear hO; intro w9 hO; (try dsimp only [List.set] at hO); ((try clear hf); have hf := fa_ hO)))
              refine ⟨⟨j + 1, on + 1, pc, pa, insR O1 i ⟨ck, cv⟩, rfl, by go_num, by omega, by omega, Lib.hid (by rw [HIL.out, HN1.out]), Lib.hid (e1.out.trans (E2.out.trans (if_neg Bool.false_ne_true))).symm, ?_⟩, by simp [intOf]; omega⟩
              (try simp only [CA])
              exact hO.cut sb_
        · have hii := idxI_end (l := O) (k := ck) (by rw [HOn.out]; omega)
          rw [hii] at HX
          have hit := hitR_end (l := O) (k := ck) (by rw [HOn.out]; omega)
          have hio : idxR O ck = on := by omega
          have HN1 := HOn
          have E2 : Hid (appR O ⟨ck, cv, cg⟩ = if cg = true then O else insR O on ⟨ck, cv⟩) := Lib.hid (by rw [← e2.out, ← hio]; unfold stepR; rw [offR_no hit])
          clear e2 hit hii hio hi2 hie
          obtain ⟨i, hi⟩ : ∃ i, i = on := ⟨_, rfl⟩
          obtain ⟨O1, hO1⟩ : ∃ O1, O1 = O := ⟨_, rfl⟩
          subst hO1
          go_upto_region 11 with (first | (go_at_call 70; (with_reducible apply Calls.mono (HX _ _ _ _ (rowV (hO.factOf (r := Row2 80 2 oa on oc (O1.flatMap rwC)) pk_)) (hO.varAt (b := gc) (k := 0) (v := .string ck) (cs := [.string ck, .string cv, .bool cg]) (t := 46) pk_ rfl)); rintro e8 w8 ⟨rfl, hx8⟩; replace hO := hO.ext hx8; clear hx8; dsimp only; ((try clear hf); have hf := fa_ hO))) | ((refine sy_ hO ?_); clear hO; intro w9 hO; (try dsimp only [List.set] at hO); ((try clear hf); have hf := fa_ hO)))
          (refine wp_region_run (fun _ => True) (fun _ _ _ _ => trivial) trivial ((0, 0) :: (0, 1) :: (1, 2) :: (0, 3) :: (0, 4) :: (0, 5) :: (0, 6) :: (0, 7) :: (0, 8) :: (1, 9) :: (0, 10) :: (1, 11) :: (0, 12) :: (0, 13) :: []) (by kernel_rfl) (by kernel_rfl) rfl (fun _ _ d _ _ h => by cases d <;> exact h) ?_; intro w9 hx9; replace hO := hO.ext hx9; clear hx9; ((try clear hf); have hf := fa_ hO); (repeat (first | (apply inRun_p _ rfl rfl rfl; focus (intro w8 K8 hK8; (repeat (first | go_skip | go_guarded | go_step)); exact hK8)) | (apply inRun_l _ rfl rfl rfl; focus (intro w8 hx8 K8 hK8; have hO := hO.ext hx8; ((try clear hf); have hf := fa_ hO); skip; (repeat (first | go_skip | go_guarded | go_step)); exact hK8)) | (apply inRun_q _ rfl; (focus (intro w8 hx8 K8 hK8; have hO := hO.ext hx8; ((try clear hf); have hf := fa_ hO); (repeat (first | go_skip | go_guarded | go_step | fail)); (first | exact xt_ | exact hK8 _ xt_))); (focus (exact rfl)); intro w8 hx8; replace hO := hO.ext hx8; clear hx8; ((try clear hf); have hf := fa_ hO)))))
          refine inRun_nil ?_
          have HIN : ∀ (a : Option Addr) (c g vc : Nat), Does Tryz.prog 73 #[.slice a on c, .int .i64 on, .slice (some ⟨g, 0, none⟩) 1 vc] [Row2 80 2 a on c (O1.flatMap rwC), Var g [.string ck, .string cv] 80] (fun p : Option Addr × Nat => (.slice p.1 (on + 1) p.2, [Row2 80 2 p.1 (on + 1) p.2 ((insR O1 on ⟨ck, cv⟩).flatMap rwC)])) := fun a c g vc => insertR_does a on c g vc on O1 ⟨ck, cv⟩ HN1.out (by omega) (by omega)
          have HIL := Lib.hid (insR_length O1 on ⟨ck, cv⟩ (by rw [HN1.out]; omega))
          cases cg with
          | true =>
            go_wp2_with (first | fail | ((refine sy_ hO ?_); clear hO; intro w9 hO; (try dsimp only [List.set] at hO); ((try clear hf); have hf := fa_ hO)))
            refine ⟨⟨j + 1, on, oc, oa, O1, rfl, by go_num, by omega, by omega, HN1, Lib.hid (e1.out.trans (E2.out.trans (if_pos rfl))).symm, ?_⟩, by simp [intOf]; omega⟩
            (try simp only [CA])
            exact hO.cut sb_
          | false =>
            go_wp2_with (first | fail | (go_at_call 73; (with_reducible apply Does.use hO (HIN _ _ _ _); (focus exact tk_); clear hO; intro x9 w9 hO; dsimp only at hO ⊢; simp only [CA] at hO; ((try clear hf); have hf := fa_ hO); (obtain ⟨pa, pc⟩ := x9; dsimp only at hO ⊢; ((try clear hf); have hf := fa_ hO)))) | ((refine sy_ hO ?_); clear hO; intro w9 hO; (try dsimp only [List.set] at hO); ((try clear hf); have hf := fa_ hO)))
            refine ⟨⟨j + 1, on + 1, pc, pa, insR O1 on ⟨ck, cv⟩, rfl, by go_num, by omega, by omega, Lib.hid (by rw [HIL.out, HN1.out]), Lib.hid (e1.out.trans (E2.out.trans (if_neg Bool.false_ne_true))).symm, ?_⟩, by simp [intOf]; omega⟩
            (try simp only [CA])
            exact hO.cut sb_
    · have hOL : O = L := by
        rw [HO.out, List.take_of_length_le (by omega)]; exact HL.out
      subst hOL
      clear HO HL HB
      by_cases hmo : most ≤ on
      · obtain ⟨k, rfl⟩ : ∃ k : Nat, most = (k : Int) := ⟨most.toNat, by omega⟩
        have hk1 : k - 1 < O.length := by rw [HOn.out]; omega
        have hS := scnS_cut (L := O) (k := k) lo hi (by omega) (by rw [HOn.out]; omega)
        obtain ⟨g0, rfl, _⟩ := hO.rowAt (e := 80) (size := 2) (a := oa) (n := on) (cap := oc) (xs := O.flatMap rwC) pk_ (by omega)
        have hcy := fun w (h : ValsAt w (some ⟨g0, 0, none⟩) (O.flatMap rwC)) => rw_cells h hk1
        simp only [Nat.zero_add] at hcy
        have hrl := hO.rowLen (e := 80) (size := 2) (a := some ⟨g0, 0, none⟩) (n := on) (cap := oc) (xs := O.flatMap rwC) pk_
        have hrl1 := hrl.2.1
        clear hrl
        have hsz := HKS.out _ (List.getElem_mem hk1)
        generalize O[k - 1] = x at *
        obtain ⟨xk, xv⟩ := x
        dsimp only at hS hcy hsz
        have HPT : ∀ w, Calls Tryz.prog 75 #[.string xk] w fun e w' => e = .returned (.agg #[.string xk, .string (xk ++ nul)]) ∧ Ext w w' := fun w => point_any xk w (by omega)
        have HBT : ∀ w, Calls Tryz.prog 74 #[.agg #[.string lo, .string hi], .agg #[.string ⟨#[]⟩, .string (xk ++ nul)]] w fun e w' => e = .returned (.agg #[.string (Sp.both ⟨lo, hi⟩ ⟨⟨#[]⟩, xk ++ nul⟩).lo, .string (Sp.both ⟨lo, hi⟩ ⟨⟨#[]⟩, xk ++ nul⟩).hi]) ∧ Ext w w' := fun w => both_any lo hi ⟨#[]⟩ (xk ++ nul) w
        generalize Sp.both ⟨lo, hi⟩ ⟨⟨#[]⟩, xk ++ nul⟩ = sp at *
        obtain ⟨f1, f2, f3⟩ := scn_of (L := O) (R := R) h1 hS
        have HNT := vnote_does q p since C R sp hR
        have HF := Lib.hid (And.intro f1 (And.intro f2 f3))
        clear f1 f2 f3 hS hsz HKS
        generalize noteR R sp = R' at *
        generalize noteN R sp = N at *
        go_upto_region 18 with (((refine sy_ hO ?_); clear hO; intro w9 hO; (try dsimp only [List.set] at hO); ((try clear hf); have hf := fa_ hO)))
        (refine wp_region_run (fun _ => True) (fun _ _ _ _ => trivial) trivial ((1, 0) :: (0, 1) :: (0, 2) :: (0, 3) :: (0, 4) :: (0, 5) :: (1, 6) :: (3, 7) :: (0, 8) :: (0, 9) :: (3, 10) :: (5, 11) :: []) (by kernel_rfl) (by kernel_rfl) rfl (fun _ _ d _ _ h => by cases d <;> exact h) ?_; intro w9 hx9; replace hO := hO.ext hx9; clear hx9; ((try clear hf); have hf := fa_ hO); (repeat (first | (apply inRun_p _ rfl rfl rfl; focus (intro w8 K8 hK8; (repeat (first | go_skip | go_guarded | go_step)); exact hK8)) | (apply inRun_l _ rfl rfl rfl; focus (intro w8 hx8 K8 hK8; have hO := hO.ext hx8; ((try clear hf); have hf := fa_ hO); obtain ⟨d0, d1⟩ := hcy _ (rowV (hO.factOf (r := Row2 80 2 (some ⟨g0, 0, none⟩) on oc (O.flatMap rwC)) pk_)); (repeat (first | go_skip | go_guarded | go_step)); exact hK8)) | (apply inRun_q _ rfl; (focus (intro w8 hx8 K8 hK8; have hO := hO.ext hx8; ((try clear hf); have hf := fa_ hO); (repeat (first | go_skip | go_guarded | go_step | (first | (go_at_call 75; (with_reducible refine Calls.mono (HPT _) ?_; rintro e7 w7 ⟨rfl, hx7⟩; dsimp only)) | (go_at_call 74; (with_reducible refine Calls.mono (HBT _) ?_; rintro e7 w7 ⟨rfl, hx7⟩; dsimp only))))); (first | exact xt_ | exact hK8 _ xt_))); (focus (exact rfl)); intro w8 hx8; replace hO := hO.ext hx8; clear hx8; ((try clear hf); have hf := fa_ hO)))))
        (refine inRun_d rfl ?_; intro K8 hK8; (repeat (first | go_skip | go_guarded | go_step)); refine hK8 _ _ trivial ?_; clear hK8 K8; with_reducible apply inRun_set_own; (focus (exact st_ hO)); clear hO; intro w9 hO; (try dsimp only [List.set] at hO); ((try clear hf); have hf := fa_ hO))
        (repeat (first | (apply inRun_p _ rfl rfl rfl; focus (intro w8 K8 hK8; (repeat (first | go_skip | go_guarded | go_step)); exact hK8)) | (apply inRun_l _ rfl rfl rfl; focus (intro w8 hx8 K8 hK8; have hO := hO.ext hx8; ((try clear hf); have hf := fa_ hO); skip; (repeat (first | go_skip | go_guarded | go_step)); exact hK8)) | (apply inRun_q _ rfl; (focus (intro w8 hx8 K8 hK8; have hO := hO.ext hx8; ((try clear hf); have hf := fa_ hO); (repeat (first | go_skip | go_guarded | go_step | fail)); (first | exact xt_ | exact hK8 _ xt_))); (focus (exact rfl)); intro w8 hx8; replace hO := hO.ext hx8; clear hx8; ((try clear hf); have hf := fa_ hO))))
        refine inRun_nil ?_
        by_cases hN : N = 0
        · subst hN
          rw [show errV 0 = .nilIface from rfl] at HNT
          go_wp2_with (first | (go_at_call 76; (replace hO := hO.toView (C := C) (R := R) tk_; (go_at_call 76; (with_reducible apply Does.use hO (HNT); (focus exact tk_); clear hO; intro x9 w9 hO; dsimp only at hO ⊢; simp only [CA] at hO; ((try clear hf); have hf := fa_ hO))))) | ((refine sy_ hO ?_); clear hO; intro w9 hO; (try dsimp only [List.set] at hO); ((try clear hf); have hf := fa_ hO)))
          have hO := (hO.pick (r := Row2 80 2 (some ⟨g0, 0, none⟩) on oc (O.flatMap rwC)) pk_).rowCut k (by omega)
          rw [rws_take] at hO
          go_ret2
          rw [HF.out.1, HF.out.2.1, HF.out.2.2, if_pos (by trivial), show (k : Int).toNat = k from rfl]
          have hlk : (O.take k).length = k := by rw [List.length_take, HOn.out]; omega
          rw [hlk]
          refine ⟨(some ⟨g0, 0, none⟩, oc), rfl, ?_⟩
          (try simp only [CA])
          exact hO.cut sb_
        · obtain ⟨N, rfl⟩ : ∃ N', N = N' + 1 := ⟨N - 1, by omega⟩
          rw [show errV (N + 1) = .iface 127 (.int .i64 ((N + 1 : Nat) : Int)) from rfl] at HNT
          go_wp2_with (first | (go_at_call 76; (replace hO := hO.toView (C := C) (R := R) tk_; (go_at_call 76; (with_reducible apply Does.use hO (HNT); (focus exact tk_); clear hO; intro x9 w9 hO; dsimp only at hO ⊢; simp only [CA] at hO; ((try clear hf); have hf := fa_ hO))))) | ((refine sy_ hO ?_); clear hO; intro w9 hO; (try dsimp only [List.set] at hO); ((try clear hf); have hf := fa_ hO)))
          have hO := hO.nil 80 2
          go_ret2
          rw [HF.out.1, HF.out.2.1, HF.out.2.2, if_neg (by omega), show errV (N + 1) = .iface 127 (.int .i64 ((N + 1 : Nat) : Int)) from rfl]
          refine ⟨(none, 0), rfl, ?_⟩
          simp only [List.length_nil, List.flatMap_nil]
          (try simp only [CA])
          exact hO.cut sb_
      · have hS := scnS_all (L := O) (most := most) lo hi (by rw [HOn.out]; omega)
        obtain ⟨f1, f2, f3⟩ := scn_of (L := O) (R := R) h1 hS
        have HNT : Does Tryz.prog 76 #[.pointer (some ⟨q, 0, none⟩), .agg #[.string lo, .string hi]] [ViewR q p since C R] (fun _ : Unit => (errV (noteN R ⟨lo, hi⟩), [ViewR q p since C (noteR R ⟨lo, hi⟩)])) := vnote_does q p since C R ⟨lo, hi⟩ hR
        have HF := Lib.hid (And.intro f1 (And.intro f2 f3))
        clear f1 f2 f3 hS HKS
        generalize noteR R ⟨lo, hi⟩ = R' at *
        generalize noteN R ⟨lo, hi⟩ = N at *
        by_cases hN : N = 0
        · subst hN
          rw [show errV 0 = .nilIface from rfl] at HNT
          go_wp2_with (first | (go_at_call 76; (replace hO := hO.toView (C := C) (R := R) tk_; (go_at_call 76; (with_reducible apply Does.use hO (HNT); (focus exact tk_); clear hO; intro x9 w9 hO; dsimp only at hO ⊢; simp only [CA] at hO; ((try clear hf); have hf := fa_ hO))))) | ((refine sy_ hO ?_); clear hO; intro w9 hO; (try dsimp only [List.set] at hO); ((try clear hf); have hf := fa_ hO)))
          go_ret2
          rw [HF.out.1, HF.out.2.1, HF.out.2.2, if_pos (by trivial), List.take_of_length_le (by rw [HOn.out]; omega), HOn.out]
          refine ⟨(oa, oc), rfl, ?_⟩
          (try simp only [CA])
          exact hO.cut sb_
        · obtain ⟨N, rfl⟩ : ∃ N', N = N' + 1 := ⟨N - 1, by omega⟩
          rw [show errV (N + 1) = .iface 127 (.int .i64 ((N + 1 : Nat) : Int)) from rfl] at HNT
          go_wp2_with (first | (go_at_call 76; (replace hO := hO.toView (C := C) (R := R) tk_; (go_at_call 76; (with_reducible apply Does.use hO (HNT); (focus exact tk_); clear hO; intro x9 w9 hO; dsimp only at hO ⊢; simp only [CA] at hO; ((try clear hf); have hf := fa_ hO))))) | ((refine sy_ hO ?_); clear hO; intro w9 hO; (try dsimp only [List.set] at hO); ((try clear hf); have hf := fa_ hO)))
          have hO := hO.nil 80 2
          go_ret2
          rw [HF.out.1, HF.out.2.1, HF.out.2.2, if_neg (by omega), show errV (N + 1) = .iface 127 (.int .i64 ((N + 1 : Nat) : Int)) from rfl]
          refine ⟨(none, 0), rfl, ?_⟩
          simp only [List.length_nil, List.flatMap_nil]
          (try simp only [CA])
          exact hO.cut sb_
/-- Scan, whatever is asked. -/
theorem vwScan_does (q p since nn : Nat) (V : List (ByteArray × List Vn)) (C : List Ch) (R : List Sp) (lo hi : ByteArray) (most : Int) (L : List Rw) (hL : (inC lo hi C).foldl appR (scanV V (hasB lo hi) since) = L)
    (hnd : (V.map (·.1)).Nodup) (hC : C.length ≤ 1000) (hR : R.length ≤ 40) (hVl : V.length ≤ 50000) (hV : ∀ e ∈ V, e.2.length ≤ 100000) (hks : ∀ r ∈ L, r.key.size ≤ 300) :
    Does Tryz.prog 23 #[.pointer (some ⟨q, 0, none⟩), .agg #[.string lo, .string hi], .int .i64 most] [ViewR q p since C R, VerR p nn V]
      (fun x : Option Addr × Nat => (.tuple #[.slice x.1 (scnO L R lo hi most).length x.2, errV (scnN L R lo hi most)], [ViewR q p since C (scnB L R lo hi most), VerR p nn V, Row2 80 2 x.1 (scnO L R lo hi most).length x.2 ((scnO L R lo hi most).flatMap rwC)])) := by
  by_cases h1 : 1 ≤ most
  · exact vwScan_up q p since nn V C R lo hi most L hL hnd hC hR hVl hV hks h1
  · obtain ⟨f1, f2, f3⟩ := scn_low (L := L) (R := R) lo hi (show most < 1 by omega)
    rw [f1, f2, f3]
    intro S W w L0 hO
    refine (vwScan_low q p since nn V C R lo hi most (by omega) S W w L0 hO).mono ?_
    rintro e w' ⟨_, rfl, h⟩
    replace h := h.nil 80 2
    refine ⟨(none, 0), rfl, ?_⟩
    simp only [List.length_nil, List.flatMap_nil, List.cons_append, List.nil_append] at h ⊢
    exact h.cut sb_
end Go.Proofs.YtmknhibaoopjjaaGreatDoor
namespace Go.Proofs.YtmknhibaoopjjaaGreatDoor
open Go.RowKit
set_option maxHeartbeats 4000000 in
set_option maxRecDepth 100000 in
theorem rscan_low (q since : Nat) (ra : Option Addr) (rc : Nat) (rows : List Rw) (C : List Ch) (R : List Sp) (lo hi : ByteArray) (most : Int) (hm : most < 1) :
    Does Tryz.prog 24 #[.pointer (some ⟨q, 0, none⟩), .agg #[.string lo, .string hi], .int .i64 most] [RViewR q since ra rc rows C R]
      (fun _ : Unit => (.tuple #[.slice none 0 0, .int .i64 1], [RViewR q since ra rc rows C R])) := by
  intro S W w L0 hO; simp only [CA] at hO
  ((try clear hf); have hf := fa_ hO)
  go_enter Tryz.func24, Tryz.ntmps24
  go_wp2_with (first | ((refine sy_ hO ?_); clear hO; intro w9 hO; (try dsimp only [List.set] at hO); ((try clear hf); have hf := fa_ hO)))
  go_ret2
  refine ⟨(), rfl, ?_⟩
  (try simp only [CA])
  exact hO.cut sb_
set_option maxHeartbeats 4000000 in
set_option maxRecDepth 100000 in
theorem rscan_up (q since : Nat) (ra : Option Addr) (rc : Nat) (rows : List Rw) (C : List Ch) (R : List Sp) (lo hi : ByteArray) (most : Int) (L : List Rw) (hL : inR lo hi (C.foldl appR rows) = L)
    (hC : C.length ≤ 100) (hR : R.length ≤ 40) (hrl : rows.length ≤ 40000) (hks : ∀ r ∈ L, r.key.size ≤ 300) (h1 : 1 ≤ most) :
    Does Tryz.prog 24 #[.pointer (some ⟨q, 0, none⟩), .agg #[.string lo, .string hi], .int .i64 most] [RViewR q since ra rc rows C R]
      (fun x : Option Addr × Nat => (.tuple #[.slice x.1 (scnO L R lo hi most).length x.2, .int .i64 (scnN L R lo hi most)], [RViewR q since ra rc rows C (scnB L R lo hi most), .imm (fun w => ValsAt w x.1 ((scnO L R lo hi most).flatMap rwC))])) := by
  have hal := apps_len C rows
  generalize hA : C.foldl appR rows = A at *
  have HIN := fun a c => in_does a A.length c A lo hi rfl (by omega) (φ := fun w => ValsAt w a (A.flatMap rwC)) fun _ h => h
  have hll : (inR lo hi A).length ≤ A.length := List.length_filter_le _ _
  intro S W w L0 hO
  simp only [CA] at hO
  obtain ⟨ca, cc, sa, sc, hO⟩ := hO.ofRView (C := C) (R := R) (.here _ _)
  have HAP := applied_does ra rows.length rc rows ca C.length cc C rfl (by omega) rfl (by omega) (φ := fun w => ValsAt w ra (rows.flatMap rwC) ∧ ChAt w ca C) (fun w h => h.1) (fun w h => h.2)
  rw [hA] at HAP
  rw [hL] at HIN hll
  have HKS := Lib.hid hks
  clear hA hL hks
  replace hO := hO.both (φ := fun w => ValsAt w ra (rows.flatMap rwC)) (ψ := fun w => ChAt w ca C) tk_
  ((try clear hf); have hf := fa_ hO)
  go_enter Tryz.func24, Tryz.ntmps24
  go_wp2_with (first | ((refine sy_ hO ?_); clear hO; intro w9 hO; (try dsimp only [List.set] at hO); ((try clear hf); have hf := fa_ hO)))
  obtain ⟨g, hg9⟩ := (hO.pick (r := Var _ [.string lo, .string hi] 49) pk_).named
  rw [← hg9]; rw [← hg9] at hO; clear hg9
  (refine wp_region_run (fun w8 => Own _ _ w8 (Var q [.slice ra rows.length rc, .int .i64 since, .slice ca C.length cc, .slice sa R.length sc] 35 :: Var g [.string lo, .string hi] 49 :: L0)) (fun _ _ h hx => h.ext hx) (hO.cut sb_) ((0, 0) :: (0, 1) :: (0, 2) :: (2, 3) :: (0, 4) :: (0, 5) :: (0, 6) :: (2, 7) :: (2, 9) :: (5, 8) :: (5, 10) :: (0, 11) :: []) (by kernel_rfl) (by kernel_rfl) rfl (fun _ _ d _ _ h => by cases d <;> exact h) ?_; intro w9 hx9; replace hO := hO.ext hx9; clear hx9; ((try clear hf); have hf := fa_ hO); (repeat (first | (apply inRun_p _ rfl rfl rfl; focus (intro w8 K8 hK8; (repeat (first | go_skip | go_guarded | go_step)); exact hK8)) | (apply inRun_s _ rfl rfl rfl; focus (intro w8 hI8 K8 hK8; (try clear hf); have hf := hI8.facts; (try simp only [FZ, Nat.reduceAdd] at hf); skip; (repeat (first | go_skip | go_guarded | go_step)); exact hK8)))))
  (refine inRun_d rfl ?_; intro K8 hK8; (repeat (first | go_skip | go_guarded | go_step)); (go_at_call 51; (with_reducible apply Does.use hO (HAP); (focus exact tk_); clear hO; intro x9 w9 hO; dsimp only at hO ⊢; simp only [CA] at hO; ((try clear hf); have hf := fa_ hO); (obtain ⟨ba, bc⟩ := x9; dsimp only at hO ⊢; ((try clear hf); have hf := fa_ hO)))); (repeat go_step); refine hK8 _ _ (hO.cut sb_) ?_; clear hK8 K8)
  have hO := (hO.pick (r := Row2 80 2 ba A.length bc (A.flatMap rwC)) pk_).rowIm (.here _ _)
  (refine inRun_d rfl ?_; intro K8 hK8; (repeat (first | go_skip | go_guarded | go_step)); (go_at_call 77; (with_reducible apply Does.use hO (HIN _ _); (focus exact tk_); clear hO; intro x9 w9 hO; dsimp only at hO ⊢; simp only [CA] at hO; ((try clear hf); have hf := fa_ hO); (obtain ⟨ia, ic⟩ := x9; dsimp only at hO ⊢; ((try clear hf); have hf := fa_ hO)))); (repeat go_step); refine hK8 _ _ (hO.cut sb_) ?_; clear hK8 K8)
  (repeat (first | (apply inRun_p _ rfl rfl rfl; focus (intro w8 K8 hK8; (repeat (first | go_skip | go_guarded | go_step)); exact hK8)) | (apply inRun_s _ rfl rfl rfl; focus (intro w8 hI8 K8 hK8; (try clear hf); have hf := hI8.facts; (try simp only [FZ, Nat.reduceAdd] at hf); skip; (repeat (first | go_skip | go_guarded | go_step)); exact hK8))))
  refine inRun_nil ?_
  have hO := (hO.pick (r := Row2 80 2 ia L.length ic (L.flatMap rwC)) pk_)
  by_cases hmo : most ≤ L.length
  · obtain ⟨k, rfl⟩ : ∃ k : Nat, most = (k : Int) := ⟨most.toNat, by omega⟩
    have hk1 : k - 1 < L.length := by omega
    have hS := scnS_cut (L := L) (k := k) lo hi (by omega) (by omega)
    obtain ⟨g0, rfl, _⟩ := hO.rowAt (e := 80) (size := 2) (a := ia) (n := L.length) (cap := ic) (xs := L.flatMap rwC) pk_ (by omega)
    have hcy := fun w (h : ValsAt w (some ⟨g0, 0, none⟩) (L.flatMap rwC)) => rw_cells h hk1
    simp only [Nat.zero_add] at hcy
    have hrl := hO.rowLen (e := 80) (size := 2) (a := some ⟨g0, 0, none⟩) (n := L.length) (cap := ic) (xs := L.flatMap rwC) pk_
    have hrl1 := hrl.2.1
    clear hrl
    have hsz := HKS.out _ (List.getElem_mem hk1)
    generalize L[k - 1] = x at *
    obtain ⟨xk, xv⟩ := x
    dsimp only at hS hcy hsz
    have HBT : ∀ w, Calls Tryz.prog 78 #[.agg #[.string lo, .string hi], .agg #[.string ⟨#[]⟩, .string (xk ++ ⟨#[0]⟩)]] w fun e w' => e = .returned (.agg #[.string (Sp.both ⟨lo, hi⟩ ⟨⟨#[]⟩, xk ++ nul⟩).lo, .string (Sp.both ⟨lo, hi⟩ ⟨⟨#[]⟩, xk ++ nul⟩).hi]) ∧ Ext w w' := fun w => rboth_any lo hi ⟨#[]⟩ (xk ++ nul) w
    generalize Sp.both ⟨lo, hi⟩ ⟨⟨#[]⟩, xk ++ nul⟩ = sp at *
    obtain ⟨f1, f2, f3⟩ := scn_of (L := L) (R := R) h1 hS
    have HNT := rnote_does q since ra rc rows C R sp hR
    have HF := Lib.hid (And.intro f1 (And.intro f2 f3))
    clear f1 f2 f3 hS
    generalize noteR R sp = R' at *
    generalize noteN R sp = N at *
    go_upto_region 6 with (((refine sy_ hO ?_); clear hO; intro w9 hO; (try dsimp only [List.set] at hO); ((try clear hf); have hf := fa_ hO)))
    (refine wp_region_run (fun _ => True) (fun _ _ _ _ => trivial) trivial ((1, 0) :: (0, 1) :: (0, 2) :: (0, 3) :: (0, 4) :: (0, 5) :: (1, 6) :: (0, 7) :: (0, 8) :: (3, 9) :: (5, 10) :: []) (by kernel_rfl) (by kernel_rfl) rfl (fun _ _ d _ _ h => by cases d <;> exact h) ?_; intro w9 hx9; replace hO := hO.ext hx9; clear hx9; ((try clear hf); have hf := fa_ hO); (repeat (first | (apply inRun_p _ rfl rfl rfl; focus (intro w8 K8 hK8; (repeat (first | go_skip | go_guarded | go_step)); exact hK8)) | (apply inRun_l _ rfl rfl rfl; focus (intro w8 hx8 K8 hK8; have hO := hO.ext hx8; ((try clear hf); have hf := fa_ hO); obtain ⟨d0, d1⟩ := hcy _ (rowV (hO.factOf (r := Row2 80 2 (some ⟨g0, 0, none⟩) L.length ic (L.flatMap rwC)) pk_)); (repeat (first | go_skip | go_guarded | go_step)); exact hK8)) | (apply inRun_q _ rfl; (focus (intro w8 hx8 K8 hK8; have hO := hO.ext hx8; ((try clear hf); have hf := fa_ hO); (repeat (first | go_skip | go_guarded | go_step | (go_at_call 78; (with_reducible refine Calls.mono (HBT _) ?_; rintro e7 w7 ⟨rfl, hx7⟩; dsimp only)))); (first | exact xt_ | exact hK8 _ xt_))); (focus (exact rfl)); intro w8 hx8; replace hO := hO.ext hx8; clear hx8; ((try clear hf); have hf := fa_ hO)))))
    (refine inRun_d rfl ?_; intro K8 hK8; (repeat (first | go_skip | go_guarded | go_step)); refine hK8 _ _ trivial ?_; clear hK8 K8; with_reducible apply inRun_set_own; (focus (exact st_ hO)); clear hO; intro w9 hO; (try dsimp only [List.set] at hO); ((try clear hf); have hf := fa_ hO))
    (repeat (first | (apply inRun_p _ rfl rfl rfl; focus (intro w8 K8 hK8; (repeat (first | go_skip | go_guarded | go_step)); exact hK8)) | (apply inRun_l _ rfl rfl rfl; focus (intro w8 hx8 K8 hK8; have hO := hO.ext hx8; ((try clear hf); have hf := fa_ hO); skip; (repeat (first | go_skip | go_guarded | go_step)); exact hK8)) | (apply inRun_q _ rfl; (focus (intro w8 hx8 K8 hK8; have hO := hO.ext hx8; ((try clear hf); have hf := fa_ hO); (repeat (first | go_skip | go_guarded | go_step | fail)); (first | exact xt_ | exact hK8 _ xt_))); (focus (exact rfl)); intro w8 hx8; replace hO := hO.ext hx8; clear hx8; ((try clear hf); have hf := fa_ hO))))
    refine inRun_nil ?_
    by_cases hN : N = 0
    · subst hN
      go_wp2_with (first | (go_at_call 79; (replace hO := hO.toRView (C := C) (R := R) tk_; (go_at_call 79; (with_reducible apply Does.use hO (HNT); (focus exact tk_); clear hO; intro x9 w9 hO; dsimp only at hO ⊢; simp only [CA] at hO; ((try clear hf); have hf := fa_ hO))))) | ((refine sy_ hO ?_); clear hO; intro w9 hO; (try dsimp only [List.set] at hO); ((try clear hf); have hf := fa_ hO)))
      have hO := (hO.pick (r := Row2 80 2 (some ⟨g0, 0, none⟩) L.length ic (L.flatMap rwC)) pk_).rowCut k (by omega)
      rw [rws_take] at hO
      have hO := hO.rowIm (.here _ _)
      go_ret2
      rw [HF.out.1, HF.out.2.1, HF.out.2.2, if_pos (by trivial), show (k : Int).toNat = k from rfl]
      have hlk : (L.take k).length = k := by rw [List.length_take]; omega
      rw [hlk]
      refine ⟨(some ⟨g0, 0, none⟩, ic), rfl, ?_⟩
      (try simp only [CA])
      exact hO.cut sb_
    · go_wp2_with (first | (go_at_call 79; (replace hO := hO.toRView (C := C) (R := R) tk_; (go_at_call 79; (with_reducible apply Does.use hO (HNT); (focus exact tk_); clear hO; intro x9 w9 hO; dsimp only at hO ⊢; simp only [CA] at hO; ((try clear hf); have hf := fa_ hO))))) | ((refine sy_ hO ?_); clear hO; intro w9 hO; (try dsimp only [List.set] at hO); ((try clear hf); have hf := fa_ hO)))
      all_goals try (exfalso; omega; done)
      have hO := (hO.nil 80 2).rowIm (.here _ _)
      go_ret2
      rw [HF.out.1, HF.out.2.1, HF.out.2.2, if_neg (by omega)]
      refine ⟨(none, 0), rfl, ?_⟩
      simp only [List.length_nil, List.flatMap_nil]
      (try simp only [CA])
      exact hO.cut sb_
  · have hS := scnS_all (L := L) (most := most) lo hi (by omega)
    obtain ⟨f1, f2, f3⟩ := scn_of (L := L) (R := R) h1 hS
    have HNT : Does Tryz.prog 79 #[.pointer (some ⟨q, 0, none⟩), .agg #[.string lo, .string hi]] [RViewR q since ra rc rows C R] (fun _ : Unit => (.int .i64 (noteN R ⟨lo, hi⟩), [RViewR q since ra rc rows C (noteR R ⟨lo, hi⟩)])) := rnote_does q since ra rc rows C R ⟨lo, hi⟩ hR
    have HF := Lib.hid (And.intro f1 (And.intro f2 f3))
    clear f1 f2 f3 hS
    generalize noteR R ⟨lo, hi⟩ = R' at *
    generalize noteN R ⟨lo, hi⟩ = N at *
    by_cases hN : N = 0
    · subst hN
      go_wp2_with (first | (go_at_call 79; (replace hO := hO.toRView (C := C) (R := R) tk_; (go_at_call 79; (with_reducible apply Does.use hO (HNT); (focus exact tk_); clear hO; intro x9 w9 hO; dsimp only at hO ⊢; simp only [CA] at hO; ((try clear hf); have hf := fa_ hO))))) | ((refine sy_ hO ?_); clear hO; intro w9 hO; (try dsimp only [List.set] at hO); ((try clear hf); have hf := fa_ hO)))
      have hO := (hO.pick (r := Row2 80 2 ia L.length ic (L.flatMap rwC)) pk_).rowIm (.here _ _)
      go_ret2
      rw [HF.out.1, HF.out.2.1, HF.out.2.2, if_pos (by trivial), List.take_of_length_le (by omega)]
      refine ⟨(ia, ic), rfl, ?_⟩
      (try simp only [CA])
      exact hO.cut sb_
    · go_wp2_with (first | (go_at_call 79; (replace hO := hO.toRView (C := C) (R := R) tk_; (go_at_call 79; (with_reducible apply Does.use hO (HNT); (focus exact tk_); clear hO; intro x9 w9 hO; dsimp only at hO ⊢; simp only [CA] at hO; ((try clear hf); have hf := fa_ hO))))) | ((refine sy_ hO ?_); clear hO; intro w9 hO; (try dsimp only [List.set] at hO); ((try clear hf); have hf := fa_ hO)))
      all_goals try (exfalso; omega; done)
      have hO := (hO.nil 80 2).rowIm (.here _ _)
      go_ret2
      rw [HF.out.1, HF.out.2.1, HF.out.2.2, if_neg (by omega)]
      refine ⟨(none, 0), rfl, ?_⟩
      simp only [List.length_nil, List.flatMap_nil]
      (try simp only [CA])
      exact hO.cut sb_
/-- Scan, whatever is asked. -/
theorem rscan_does (q since : Nat) (ra : Option Addr) (rc : Nat) (rows : List Rw) (C : List Ch) (R : List Sp) (lo hi : ByteArray) (most : Int) (L : List Rw) (hL : inR lo hi (C.foldl appR rows) = L)
    (hC : C.length ≤ 100) (hR : R.length ≤ 40) (hrl : rows.length ≤ 40000) (hks : ∀ r ∈ L, r.key.size ≤ 300) :
    Does Tryz.prog 24 #[.pointer (some ⟨q, 0, none⟩), .agg #[.string lo, .string hi], .int .i64 most] [RViewR q since ra rc rows C R]
      (fun x : Option Addr × Nat => (.tuple #[.slice x.1 (scnO L R lo hi most).length x.2, .int .i64 (scnN L R lo hi most)], [RViewR q since ra rc rows C (scnB L R lo hi most), .imm (fun w => ValsAt w x.1 ((scnO L R lo hi most).flatMap rwC))])) := by
  by_cases h1 : 1 ≤ most
  · exact rscan_up q since ra rc rows C R lo hi most L hL hC hR hrl hks h1
  · obtain ⟨f1, f2, f3⟩ := scn_low (L := L) (R := R) lo hi (show most < 1 by omega)
    rw [f1, f2, f3]
    intro S W w L0 hO
    refine (rscan_low q since ra rc rows C R lo hi most (by omega) S W w L0 hO).mono ?_
    rintro e w' ⟨_, rfl, h⟩
    replace h := (h.nil 80 2).rowIm (.here _ _)
    refine ⟨(none, 0), rfl, ?_⟩
    simp only [List.length_nil, List.flatMap_nil, List.cons_append, List.nil_append] at h ⊢
    exact h.cut sb_
end Go.Proofs.YtmknhibaoopjjaaGreatDoor
namespace Go.Proofs.YtmknhibaoopjjaaGreatDoor
open Go.RowKit
set_option maxHeartbeats 2000000 in
set_option maxRecDepth 100000 in
theorem asView_does (q p since : Nat) (C : List Ch) (R : List Sp) (mq : Nat) (ra : Option Addr) (rc : Nat) (rows : List Rw) (hC : C.length ≤ 1000) (hR : R.length ≤ 1000) :
    Does Tryz.prog 29 #[.pointer (some ⟨q, 0, none⟩), .pointer (some ⟨mq, 0, none⟩)] [ViewR q p since C R, RViewR mq since ra rc rows C R] (fun _ : Unit => (.bool true, [ViewR q p since C R, RViewR mq since ra rc rows C R])) := by
  have HC := vChanges_does q p since C R hC
  have HR := vReads_does q p since C R hR
  have HS := vSince_reads q p since C R
  have HSC := fun a b c d w h1 h2 => same_does a b C.length c d C w rfl hC h1 h2
  have HSP := fun a b c d w h1 h2 => sameSpans_any a b R.length c d R w rfl (by omega) h1 h2
  intro S W w L0 hO; simp only [CA] at hO
  obtain ⟨ca, cc, sa, sc, hO⟩ := hO.ofRView (C := C) (R := R) (.there _ (.here _ _))
  ((try clear hf); have hf := fa_ hO)
  go_enter Tryz.func29, Tryz.ntmps29
  go_wp2_with (first | ((refine sy_ hO ?_); clear hO; intro w9 hO; (try dsimp only [List.set] at hO); ((try clear hf); have hf := fa_ hO)))
  (refine wp_region_run (fun w8 => Own _ _ w8 (Var mq [.slice ra rows.length rc, .int .i64 since, .slice ca C.length cc, .slice sa R.length sc] 35 :: L0)) (fun _ _ h hx => h.ext hx) (hO.cut sb_) ((0, 0) :: (0, 2) :: (0, 3) :: (0, 4) :: (2, 5) :: (5, 1) :: (5, 6) :: (0, 7) :: (0, 8) :: (0, 10) :: (0, 11) :: (0, 12) :: (2, 13) :: (5, 9) :: (5, 14) :: (0, 15) :: (0, 16) :: (0, 17) :: (0, 19) :: (0, 20) :: (0, 21) :: (2, 22) :: (5, 18) :: (0, 23) :: (0, 24) :: (0, 25) :: []) (by kernel_rfl) (by kernel_rfl) rfl (fun _ _ d _ _ h => by cases d <;> exact h) ?_; intro w9 hx9; replace hO := hO.ext hx9; clear hx9; ((try clear hf); have hf := fa_ hO); (repeat (first | (apply inRun_p _ rfl rfl rfl; focus (intro w8 K8 hK8; (repeat (first | go_skip | go_guarded | go_step)); exact hK8)) | (apply inRun_s _ rfl rfl rfl; focus (intro w8 hI8 K8 hK8; (try clear hf); have hf := hI8.facts; (try simp only [FZ, Nat.reduceAdd] at hf); skip; (repeat (first | go_skip | go_guarded | go_step)); exact hK8)))))
  (refine inRun_d rfl ?_; intro K8 hK8; (repeat (first | go_skip | go_guarded | go_step)); (go_at_call 85; (with_reducible apply Does.use hO (HC); (focus exact tk_); clear hO; intro x9 w9 hO; dsimp only at hO ⊢; simp only [CA] at hO; ((try clear hf); have hf := fa_ hO); (obtain ⟨ya, yc⟩ := x9; dsimp only at hO ⊢; ((try clear hf); have hf := fa_ hO)))); (repeat go_step); refine hK8 _ _ (hO.cut sb_) ?_; clear hK8 K8)
  have hO := hO.rowCi (a := ya) (C := C) pk_
  (repeat (first | (apply inRun_p _ rfl rfl rfl; focus (intro w8 K8 hK8; (repeat (first | go_skip | go_guarded | go_step)); exact hK8)) | (apply inRun_s _ rfl rfl rfl; focus (intro w8 hI8 K8 hK8; (try clear hf); have hf := hI8.facts; (try simp only [FZ, Nat.reduceAdd] at hf); skip; (repeat (first | go_skip | go_guarded | go_step)); exact hK8))))
  (refine inRun_d rfl ?_; intro K8 hK8; (repeat (first | go_skip | go_guarded | go_step)); (go_at_call 84; (with_reducible apply Calls.mono (HSC _ _ _ _ _ (Own.immOf (φ := fun w => ChAt w ya C) hO pk_) (Own.immOf (φ := fun w => ChAt w ca C) hO pk_)); rintro e8 w8 ⟨rfl, hx8⟩; replace hO := hO.ext hx8; clear hx8; dsimp only; ((try clear hf); have hf := fa_ hO))); (repeat go_step); refine hK8 _ _ (hO.cut sb_) ?_; clear hK8 K8)
  (repeat (first | (apply inRun_p _ rfl rfl rfl; focus (intro w8 K8 hK8; (repeat (first | go_skip | go_guarded | go_step)); exact hK8)) | (apply inRun_s _ rfl rfl rfl; focus (intro w8 hI8 K8 hK8; (try clear hf); have hf := hI8.facts; (try simp only [FZ, Nat.reduceAdd] at hf); skip; (repeat (first | go_skip | go_guarded | go_step)); exact hK8))))
  (refine inRun_d rfl ?_; intro K8 hK8; (repeat (first | go_skip | go_guarded | go_step)); (go_at_call 42; (with_reducible apply Does.use hO (HR); (focus exact tk_); clear hO; intro x9 w9 hO; dsimp only at hO ⊢; simp only [CA] at hO; ((try clear hf); have hf := fa_ hO); (obtain ⟨za, zc⟩ := x9; dsimp only at hO ⊢; ((try clear hf); have hf := fa_ hO)))); (repeat go_step); refine hK8 _ _ (hO.cut sb_) ?_; clear hK8 K8)
  (repeat (first | (apply inRun_p _ rfl rfl rfl; focus (intro w8 K8 hK8; (repeat (first | go_skip | go_guarded | go_step)); exact hK8)) | (apply inRun_s _ rfl rfl rfl; focus (intro w8 hI8 K8 hK8; (try clear hf); have hf := hI8.facts; (try simp only [FZ, Nat.reduceAdd] at hf); skip; (repeat (first | go_skip | go_guarded | go_step)); exact hK8))))
  (refine inRun_d rfl ?_; intro K8 hK8; (repeat (first | go_skip | go_guarded | go_step)); (go_at_call 86; (with_reducible apply Calls.mono (HSP _ _ _ _ _ (Own.immOf (φ := fun w => ValsAt w za (R.flatMap spC)) hO pk_) (Own.immOf (φ := fun w => ValsAt w sa (R.flatMap spC)) hO pk_)); rintro e8 w8 ⟨rfl, hx8⟩; replace hO := hO.ext hx8; clear hx8; dsimp only; ((try clear hf); have hf := fa_ hO))); (repeat go_step); refine hK8 _ _ (hO.cut sb_) ?_; clear hK8 K8)
  (repeat (first | (apply inRun_p _ rfl rfl rfl; focus (intro w8 K8 hK8; (repeat (first | go_skip | go_guarded | go_step)); exact hK8)) | (apply inRun_s _ rfl rfl rfl; focus (intro w8 hI8 K8 hK8; (try clear hf); have hf := hI8.facts; (try simp only [FZ, Nat.reduceAdd] at hf); skip; (repeat (first | go_skip | go_guarded | go_step)); exact hK8))))
  (refine inRun_d rfl ?_; intro K8 hK8; (repeat (first | go_skip | go_guarded | go_step)); (go_at_call 60; (with_reducible apply Reads.use hO (HS); (focus exact tk_); clear hO; intro w9 hx9 hO; clear hx9; dsimp only; ((try clear hf); have hf := fa_ hO))); (repeat go_step); refine hK8 _ _ (hO.cut sb_) ?_; clear hK8 K8)
  (repeat (first | (apply inRun_p _ rfl rfl rfl; focus (intro w8 K8 hK8; (repeat (first | go_skip | go_guarded | go_step)); exact hK8)) | (apply inRun_s _ rfl rfl rfl; focus (intro w8 hI8 K8 hK8; (try clear hf); have hf := hI8.facts; (try simp only [FZ, Nat.reduceAdd] at hf); skip; (repeat (first | go_skip | go_guarded | go_step)); exact hK8))))
  refine inRun_nil ?_
  go_wp2_with (first | ((refine sy_ hO ?_); clear hO; intro w9 hO; (try dsimp only [List.set] at hO); ((try clear hf); have hf := fa_ hO)))
  have hO := hO.toRView (C := C) (R := R) tk_
  go_ret
  refine ⟨(), rfl, ?_⟩
  (try simp only [CA])
  exact hO.cut sb_
end Go.Proofs.YtmknhibaoopjjaaGreatDoor
namespace Go.Proofs.YtmknhibaoopjjaaGreatDoor
open Go.RowKit
def cTy : Ch := ⟨kTA, ⟨#[121]⟩, false⟩
theorem cTy_ok : chN cTy = 0 := by
  unfold chN
  rw [if_pos (show KeyOk cTy.key from kTA_key), if_neg (fun h => by cases h.1), if_neg (by decide)]
theorem put_ty : putN [] cTy = 0 ∧ putL [] cTy = [cTy] := by
  have h : putN [] cTy = 0 := by
    unfold putN
    rw [if_neg (by rw [cTy_ok]; simp), if_neg (by unfold putC low high; simp)]
  refine ⟨h, ?_⟩
  unfold putL
  rw [if_pos h]
  rfl
theorem kTA_n : keyN kTA = 0 := by unfold keyN; rw [if_pos kTA_key]
theorem get_ty (V : List (ByteArray × List Vn)) : getA V 0 [cTy] [] kTA = (⟨#[121]⟩, true, 0) ∧ getB [cTy] [] kTA = [] := by
  have h : findC [cTy] kTA = some cTy := by
    unfold findC
    rw [List.find?_cons_of_pos (p := fun r : Ch => decide (r.key = kTA)) (decide_eq_true rfl)]
  constructor
  · unfold getA
    rw [if_neg (by rw [kTA_n]; simp), h]
    rfl
  · unfold getB
    rw [if_neg (by rw [kTA_n]; simp), h]
set_option maxHeartbeats 4000000 in
set_option maxRecDepth 100000 in
theorem views_any (w : World) (h : LibOk w) : Calls Tryz.prog 13 #[] w fun e w' => e = .returned (.bool true) ∧ Ext w w' := by
  have hO := lib_base h
  have HN := fun b => vnew_does (some ⟨b, 0, none⟩) 1 1 [rTA] rfl (by omega) (by simp)
  have HS : ∀ w, Calls Tryz.prog 19 #[.nilIface, .int .i64 0] w fun e w' => e = .returned (.bool true) ∧ w' = w := fun w => same_ok 0 (by omega) w
  have HVN := fun p => vwNew_does p 0 (newV [rTA])
  have HP := fun q p => vPut_does q p 0 [] [] kTA ⟨#[121]⟩ (by decide) (by decide) (by simp) (List.Pairwise.nil) (φ := LibOk) fun _ h => h
  have HG := fun q p => vget_does q p 0 0 (newV [rTA]) [cTy] [] kTA (by decide) (by simp) (List.pairwise_singleton ..) (by simp) (fun e he => by rw [show e = (kTA, [⟨0, ⟨#[120]⟩, false⟩]) from List.mem_singleton.1 he]; simp) (φ := LibOk) fun _ h => h
  have HR := fun q p => vReads_does q p 0 [cTy] [] (by simp)
  have HSI := fun q p => vSince_reads q p 0 [cTy] []
  obtain ⟨g1, g2⟩ := get_ty (newV [rTA])
  obtain ⟨p1, p2⟩ := put_ty
  simp only [g1, g2] at HG
  rw [show cTy = ⟨kTA, ⟨#[121]⟩, false⟩ from rfl] at p1 p2
  simp only [p1, p2] at HP
  rw [show errV 0 = .nilIface from rfl] at HP HG
  rw [show ([⟨kTA, ⟨#[121]⟩, false⟩] : List Ch) = [cTy] from rfl] at HP
  rw [show kTA = ⟨#[116, 47, 97]⟩ from rfl] at HP HG
  clear g1 g2 p1 p2
  ((try clear hf); have hf := fa_ hO)
  go_enter Tryz.func13, Tryz.ntmps13
  go_wp2_with (first | (go_at_call 17; (replace hO := ((hO.pick (r := Var _ [.string ⟨#[116, 47, 97]⟩, .string ⟨#[120]⟩] 80) pk_).varRws (r := rTA)); with_reducible refine Does.use hO (HN _) tk_ ?_; clear hO; intro x9 w9 hO; dsimp only at hO ⊢; simp only [List.cons_append, List.nil_append] at hO; rename Nat => p; ((try clear hf); have hf := fa_ hO))) | (go_at_call 16; (with_reducible apply Does.use hO (HVN _); (focus exact tk_); clear hO; intro x9 w9 hO; dsimp only at hO ⊢; simp only [CA] at hO; ((try clear hf); have hf := fa_ hO); rename Nat => q)) | (go_at_call 20; (with_reducible apply Does.use hO (HP _ _); (focus exact tk_); clear hO; intro x9 w9 hO; dsimp only at hO ⊢; simp only [CA] at hO; ((try clear hf); have hf := fa_ hO))) | (go_at_call 27; (with_reducible apply Does.use hO (HG _ _); (focus exact tk_); clear hO; intro x9 w9 hO; dsimp only at hO ⊢; simp only [CA] at hO; ((try clear hf); have hf := fa_ hO))) | (go_at_call 19; (with_reducible apply Calls.mono (HS _); rintro e8 w8 ⟨rfl, rfl⟩; dsimp only)) | (go_at_call 42; (with_reducible apply Does.use hO (HR _ _); (focus exact tk_); clear hO; intro x9 w9 hO; dsimp only at hO ⊢; simp only [CA] at hO; ((try clear hf); have hf := fa_ hO); (obtain ⟨ra, rc⟩ := x9; dsimp only at hO ⊢; ((try clear hf); have hf := fa_ hO)))) | (go_at_call 60; (with_reducible apply Reads.use hO (HSI _ _); (focus exact tk_); clear hO; intro w9 hx9 hO; clear hx9; dsimp only; ((try clear hf); have hf := fa_ hO))) | ((refine sy_ hO ?_); clear hO; intro w9 hO; (try dsimp only [List.set] at hO); ((try clear hf); have hf := fa_ hO)))
  go_ret
  exact ⟨rfl, hO.toExt⟩
end Go.Proofs.YtmknhibaoopjjaaGreatDoor
namespace Go.Proofs.YtmknhibaoopjjaaGreatDoor
open Go.RowKit
/-- What is known between two acts. -/
structure VwInv (C M : List Ch) (R : List Sp) : Prop where
  ups : Ups C
  c12 : C.length ≤ 12
  r40 : R.length ≤ 40
  mups : Ups M
  m12 : M.length ≤ 12
  good : ∀ c ∈ C, c.key.size ≤ 300
  mgood : ∀ c ∈ M, c.key.size ≤ 300
theorem noteR_len {R : List Sp} (s : Sp) (h : R.length ≤ 40) : (noteR R s).length ≤ 40 := by
  unfold noteR
  split
  · exact h
  · split
    · exact h
    · rw [List.length_append, List.length_singleton]; omega
theorem putL_keep {C : List Ch} (c : Ch) (hU : Ups C) (h : C.length ≤ 12) : Ups (putL C c) ∧ (putL C c).length ≤ 12 := by
  unfold putL
  split
  · rename_i h1
    refine ⟨hU.put c, ?_⟩
    unfold putN at h1
    split at h1
    · omega
    · split at h1
      · omega
      · omega
  · exact ⟨hU, h⟩
theorem putL_mem {C : List Ch} {c x : Ch} (h : x ∈ putL C c) : x = c ∨ x ∈ C := by
  unfold putL at h
  split at h
  · exact mem_put h
  · exact .inr h
theorem VwInv.put {C M : List Ch} {R : List Sp} (h : VwInv C M R) (c : Ch) (hc : c.key.size ≤ 300) : VwInv (putL C c) M R :=
  ⟨(putL_keep c h.ups h.c12).1, (putL_keep c h.ups h.c12).2, h.r40, h.mups, h.m12, fun x hx => (putL_mem hx).elim (fun e => e ▸ hc) (h.good x), h.mgood⟩
theorem apps_key {r : Rw} : ∀ {C : List Ch} {l : List Rw}, r ∈ C.foldl appR l → (∃ x ∈ l, x.key = r.key) ∨ ∃ c ∈ C, c.key = r.key
  | [], _, h => .inl ⟨r, h, rfl⟩
  | c :: C, l, h => by
    rcases apps_key (C := C) (l := appR l c) h with ⟨x, hx, he⟩ | ⟨d, hd, he⟩
    · rcases mem_appF.1 hx with ⟨h1, _⟩ | ⟨_, h1⟩
      · exact .inl ⟨x, h1, he⟩
      · exact .inr ⟨c, List.mem_cons_self .., by rw [← he, h1]⟩
    · exact .inr ⟨d, List.mem_cons_of_mem _ hd, he⟩
theorem view_keys {rows : List Rw} (h : ∀ r ∈ rows, r.key.size ≤ 60 ∧ r.val.size ≤ 40) (C : List Ch) (lo hi : ByteArray) (hC : ∀ c ∈ C, c.key.size ≤ 300) : ∀ r ∈ inR lo hi (C.foldl appR rows), r.key.size ≤ 300 := fun r hr => by
  rcases apps_key (List.mem_filter.1 hr).1 with ⟨x, hx, he⟩ | ⟨c, hc, he⟩
  · have := (h x hx).1; rw [← he]; omega
  · have := hC c hc; rw [← he]; omega
theorem scan_view {rows : List Rw} (h : RUps rows) (C : List Ch) (lo hi : ByteArray) : (inC lo hi C).foldl appR (scanV (newV rows) (hasB lo hi) 0) = inR lo hi (C.foldl appR rows) := by
  have e : scanV (newV rows) (hasB lo hi) 0 = inR lo hi rows := (Past.new h).scan (m := 0) (by omega) (j := 0) (by simp) (by simp) (hasB lo hi)
  rw [inR_apps lo hi C h, e]
theorem newV_nodup {rows : List Rw} (h : RUps rows) : ((newV rows).map (·.1)).Nodup := by
  unfold newV
  rw [List.map_map]
  exact h.keys
theorem newV_length (rows : List Rw) : (newV rows).length = rows.length := by unfold newV; rw [List.length_map]
theorem newV_len1 (rows : List Rw) : ∀ e ∈ newV rows, e.2.length ≤ 100000 := fun e he => by
  obtain ⟨r, _, rfl⟩ := List.mem_map.1 he
  exact Nat.le_trans (Nat.le_refl 1) (by omega)
theorem VwInv.read {C M : List Ch} {R : List Sp} (h : VwInv C M R) (k : ByteArray) : VwInv C M (getB C R k) := by
  refine ⟨h.ups, h.c12, ?_, h.mups, h.m12, h.good, h.mgood⟩
  unfold getB
  split
  · exact h.r40
  · split
    · exact h.r40
    · exact noteR_len _ h.r40
theorem VwInv.scan {C M : List Ch} {R : List Sp} (h : VwInv C M R) (L : List Rw) (lo hi : ByteArray) (most : Int) : VwInv C M (scnB L R lo hi most) := by
  refine ⟨h.ups, h.c12, ?_, h.mups, h.m12, h.good, h.mgood⟩
  unfold scnB
  split
  · exact h.r40
  · exact noteR_len _ h.r40
theorem VwInv.nil : VwInv [] [] [] := ⟨List.Pairwise.nil, Nat.zero_le _, Nat.zero_le _, List.Pairwise.nil, Nat.zero_le _, fun _ h => (List.not_mem_nil h).elim, fun _ h => (List.not_mem_nil h).elim⟩
theorem VwInv.mark {C M : List Ch} {R : List Sp} (h : VwInv C M R) : VwInv C C R := ⟨h.ups, h.c12, h.r40, h.ups, h.c12, h.good, h.good⟩
theorem VwInv.back {C M : List Ch} {R : List Sp} (h : VwInv C M R) : VwInv M M R := ⟨h.mups, h.m12, h.r40, h.mups, h.m12, h.mgood, h.mgood⟩
theorem newV_len (rows : List Rw) : ∀ e ∈ newV rows, e.2.length ≤ 1000000 := fun e he => by
  obtain ⟨r, _, rfl⟩ := List.mem_map.1 he
  exact Nat.le_trans (Nat.le_refl 1) (by omega)
theorem keyN_le (k : ByteArray) : keyN k ≤ 3 := by unfold keyN; split <;> omega
theorem getG_le (y : ByteArray × Bool) (C : List Ch) (R : List Sp) (k : ByteArray) : (getG y C R k).2.2 ≤ 1000 := by
  unfold getG
  split
  · have := keyN_le k; exact Nat.le_trans this (by omega)
  · split
    · exact Nat.zero_le _
    · split
      · exact Nat.le_trans (noteN_le _ _) (by omega)
      · exact Nat.zero_le _
theorem Own.immNilS {S : Nat → Prop} {W w : World} {l : List Rs} (h : Own S W w l) : Own S W w (.imm (fun w => ValsAt w none ([].flatMap spC)) :: l) :=
  Own.toImm (r := Row2 49 2 none 0 0 []) (φ := fun w => ValsAt w none ([].flatMap spC)) (fun w h => .inl rfl) (h.nil 49 2)
theorem Own.newRView {S : Nat → Prop} {W w : World} {l l' : List Rs} {q rc : Nat} {ra : Option Addr} {rows : List Rw} (h : Own S W w l)
    (ht : Takes l [Var q [.slice ra rows.length rc, .int .i64 0, .slice none 0 0, .slice none 0 0] 35, .imm (fun w => ValsAt w ra (rows.flatMap rwC))] l') : Own S W w (RViewR q 0 ra rc rows [] [] :: l') := by
  have h1 := ((h.take ht).immNilS).immNil
  simp only [List.cons_append, List.nil_append] at h1
  have h2 := h1.cut (l' := Var q [.slice ra rows.length rc, .int .i64 0, .slice none 0 0, .slice none 0 0] 35 :: .imm (fun w => ValsAt w ra (rows.flatMap rwC)) :: .imm (fun w => ChAt w none []) :: .imm (fun w => ValsAt w none ([].flatMap spC)) :: l') sb_
  exact Own.toEx (none, 0, none, 0) (Own.pack h2)
theorem scnN_le (L : List Rw) (R : List Sp) (lo hi : ByteArray) (most : Int) : scnN L R lo hi most ≤ 1000 := by
  unfold scnN
  split
  · omega
  · exact Nat.le_trans (noteN_le _ _) (by omega)
theorem scnO_len (L : List Rw) (R : List Sp) (lo hi : ByteArray) (most : Int) : (scnO L R lo hi most).length ≤ L.length := by
  unfold scnO
  split
  · rw [List.length_take]; omega
  · exact Nat.zero_le _
theorem inR_len (rows : List Rw) (C : List Ch) (lo hi : ByteArray) : (inR lo hi (C.foldl appR rows)).length ≤ rows.length + C.length :=
  Nat.le_trans (List.length_filter_le _ _) (apps_len C rows)
theorem putN_le (C : List Ch) (c : Ch) : putN C c ≤ 1000 := by
  unfold putN
  have := chN_le c
  split
  · omega
  · split <;> omega
set_option maxHeartbeats 8000000 in
set_option maxRecDepth 100000 in
theorem viewSays_any (ra : Option Addr) (n rc : Nat) (rows : List Rw) (aa : Option Addr) (m ac : Nat) (l : List Ac) (W : World) (hφ : VsArg ra rows aa l W) (hrl : rows.length = n) (hll : l.length = m)
    (hn : n ≤ 9223372036854775807) (hm : m ≤ 9223372036854775807) :
    Calls Tryz.prog 3 #[.slice ra n rc, .slice aa m ac] W fun e w' => e = .returned (.bool true) ∧ Ext W w' := by
  have hO := (hφ.base.again).imp (ψ := LibOk) fun _ h => h.1
  have HE := fun w (h : VsArg ra rows aa l w) => views_any w h.1
  have HL : ∀ w, VsArg ra rows aa l w → Calls Tryz.prog 14 #[.slice aa m ac, .int .i64 60] w fun e w' => e = .returned (.bool (lightActs l 60)) ∧ w' = w := fun w hA => by
    subst hll; exact lightActs_any aa ac l 60 w (by unfold maxLen; omega) (by omega) hA.2.2
  have HG := fun w (h : VsArg ra rows aa l w) => goodRows_any ra n rc rows hrl hn w h.2.1
  cases hli : lightActs l 60 with
  | false =>
    rw [hli] at HL
    go_enter Tryz.func3, Tryz.ntmps3
    go_wp2_with (first | (go_at_call 13; (with_reducible apply Calls.mono (HE _ (Own.immOf (φ := VsArg ra rows aa l) hO pk_)); rintro e8 w8 ⟨rfl, hx8⟩; replace hO := hO.ext hx8; clear hx8; dsimp only; ((try clear hf); have hf := fa_ hO))) | (go_at_call 14; (with_reducible apply Calls.mono (HL _ (Own.immOf (φ := VsArg ra rows aa l) hO pk_)); rintro e8 w8 ⟨rfl, rfl⟩; dsimp only)) | (go_at_call 15; (with_reducible apply Calls.mono (HG _ (Own.immOf (φ := VsArg ra rows aa l) hO pk_)); rintro e8 w8 ⟨rfl, hx8⟩; replace hO := hO.ext hx8; clear hx8; dsimp only; ((try clear hf); have hf := fa_ hO))) | ((refine sy_ hO ?_); clear hO; intro w9 hO; (try dsimp only [List.set] at hO); ((try clear hf); have hf := fa_ hO)))
    all_goals first | (exfalso; omega; done) | (go_ret; exact ⟨rfl, hO.toExt⟩)
  | true =>
    rw [hli] at HL
    have hm60 : m ≤ 60 := by have := lightActs_len hli; omega
    cases hgr : goodR rows with
    | false =>
      rw [hgr] at HG
      go_enter Tryz.func3, Tryz.ntmps3
      go_wp2_with (first | (go_at_call 13; (with_reducible apply Calls.mono (HE _ (Own.immOf (φ := VsArg ra rows aa l) hO pk_)); rintro e8 w8 ⟨rfl, hx8⟩; replace hO := hO.ext hx8; clear hx8; dsimp only; ((try clear hf); have hf := fa_ hO))) | (go_at_call 14; (with_reducible apply Calls.mono (HL _ (Own.immOf (φ := VsArg ra rows aa l) hO pk_)); rintro e8 w8 ⟨rfl, rfl⟩; dsimp only)) | (go_at_call 15; (with_reducible apply Calls.mono (HG _ (Own.immOf (φ := VsArg ra rows aa l) hO pk_)); rintro e8 w8 ⟨rfl, hx8⟩; replace hO := hO.ext hx8; clear hx8; dsimp only; ((try clear hf); have hf := fa_ hO))) | ((refine sy_ hO ?_); clear hO; intro w9 hO; (try dsimp only [List.set] at hO); ((try clear hf); have hf := fa_ hO)))
      all_goals first | (exfalso; omega; done) | (go_ret; exact ⟨rfl, hO.toExt⟩)
    | true =>
      rw [hgr] at HG
      obtain ⟨h50, hup, hks⟩ := goodR_ok hgr
      have HN := vnew_does ra n rc rows hrl (by omega) hup.keys
      have HVN := fun p => vwNew_does p 0 (newV rows)
      have HMK := fun q p => vMark_does q p 0 [] [] (Nat.zero_le _)
      have HUP := Lib.hid hup
      have HKS := Lib.hid hks
      clear hgr hks
      replace hO := (hO.pick (r := .imm (VsArg ra rows aa l)) pk_).again.imp (ψ := fun w => ValsAt w ra (rows.flatMap rwC)) fun _ h => h.2.1
      go_enter Tryz.func3, Tryz.ntmps3
      go_wp2_with (first | (go_at_call 13; (with_reducible apply Calls.mono (HE _ (Own.immOf (φ := VsArg ra rows aa l) hO pk_)); rintro e8 w8 ⟨rfl, hx8⟩; replace hO := hO.ext hx8; clear hx8; dsimp only; ((try clear hf); have hf := fa_ hO))) | (go_at_call 14; (with_reducible apply Calls.mono (HL _ (Own.immOf (φ := VsArg ra rows aa l) hO pk_)); rintro e8 w8 ⟨rfl, rfl⟩; dsimp only)) | (go_at_call 15; (with_reducible apply Calls.mono (HG _ (Own.immOf (φ := VsArg ra rows aa l) hO pk_)); rintro e8 w8 ⟨rfl, hx8⟩; replace hO := hO.ext hx8; clear hx8; dsimp only; ((try clear hf); have hf := fa_ hO))) | (go_at_call 17; (with_reducible apply Does.use hO (HN); (focus exact tk_); clear hO; intro x9 w9 hO; dsimp only at hO ⊢; simp only [CA] at hO; ((try clear hf); have hf := fa_ hO); rename Nat => p)) | (go_at_call 16; (with_reducible apply Does.use hO (HVN _); (focus exact tk_); clear hO; intro x9 w9 hO; dsimp only at hO ⊢; simp only [CA] at hO; ((try clear hf); have hf := fa_ hO); rename Nat => q)) | (go_at_call 18; (with_reducible apply Does.use hO (HMK _ _); (focus exact tk_); clear hO; intro x9 w9 hO; dsimp only at hO ⊢; simp only [CA] at hO; ((try clear hf); have hf := fa_ hO); (obtain ⟨ma, mc⟩ := x9; dsimp only at hO ⊢; ((try clear hf); have hf := fa_ hO)))) | ((refine sy_ hO ?_); clear hO; intro w9 hO; (try dsimp only [List.set] at hO); ((try clear hf); have hf := fa_ hO)))
      subst hrl
      have hO := hO.rowCi (a := ma) (C := []) pk_
      obtain ⟨mq, hg9⟩ := (hO.pick (r := Var _ [.slice ra rows.length rc, .int .i64 0, .slice none 0 0, .slice none 0 0] 35) pk_).named
      rw [← hg9]; rw [← hg9] at hO; clear hg9
      have hO := hO.newRView (q := mq) (ra := ra) (rc := rc) (rows := rows) tk_
      have hO := hO.immNil
      have hO9 := hO
      clear hO hf HN HVN HMK
      go_loopw [8, 9, 10] (fun v8 v9 v10 wr => ∃ (j : Nat) (ma : Option Addr) (mc : Nat) (wa : Option Addr) (wc : Nat) (C M : List Ch) (R : List Sp), v8 = .slice ma M.length mc ∧ v9 = .slice wa M.length wc ∧ v10 = .int .i64 j ∧ j ≤ m ∧ Hid (VwInv C M R) ∧
        Own (fun _ => False) W wr [ViewR q p 0 C R, VerR p 0 (newV rows), RViewR mq 0 ra rc rows C R, .imm (fun w => ChAt w ma M), .imm (fun w => ChAt w wa M), .imm LibOk, .imm (VsArg ra rows aa l)]) (fun _ _ v _ => m - (intOf v).toNat)
      case atStart => exact ⟨0, ma, mc, none, 0, [], [], [], rfl, rfl, rfl, by omega, Lib.hid VwInv.nil, hO9.cut sb_⟩
      case round =>
        clear hO9
        obtain ⟨j, ma, mc, wa, wc, C, M, R, rfl, rfl, rfl, hj, HI, hO⟩ := hrel
        rename World => w1
        have hc12 := HI.out.c12
        have hr40 := HI.out.r40
        have hm12 := HI.out.m12
        ((try clear hf); have hf := fa_ hO)
        by_cases hlt : j < m
        · have hj2 : j < l.length := by omega
          have hxl := List.getElem_mem hj2
          obtain ⟨hxs, hxt, hxn, hxc, hxsp⟩ := lightActs_at hli hxl
          have hA0 := (Own.immOf (φ := VsArg ra rows aa l) hO pk_).2.2
          have hspn := fun w (h : VsArg ra rows aa l w) => (h.2.2.2 _ hxl).2.2.1
          rcases hA0.1 with h0 | ⟨b, off, rfl, hc⟩
          · rw [h0] at hj2; simp at hj2
          have hcell := fun w (h : VsArg ra rows (some ⟨b, off, none⟩) l w) => show AcAt w b (off + j * 9) l[j] from by
            rcases h.2.2.1 with h0 | ⟨b', off', he, hc⟩
            · rw [h0] at hj2; simp at hj2
            · simp only [Option.some.injEq, Addr.mk.injEq, and_true] at he
              obtain ⟨rfl, rfl⟩ := he
              exact hc j hj2
          clear hc hA0 hxl
          generalize l[j] = x at *
          obtain ⟨xkind, xA, xB, xC, xK, xS, xT, xcp, xcc, xch, xsp, xsc, xspn⟩ := x
          dsimp only at *
          clear hφ hxc hxn hxsp
          have hk9 := hcell _ (Own.immOf (φ := VsArg ra rows (some ⟨b, off, none⟩) l) hO pk_)
          obtain ⟨k0, k1, k2, k3, k4, k5, k6, k7, k8⟩ := hk9
          cases hkind : xkind.toList == [112, 117, 116] with
          | true =>
            have HP := vPut_does q p 0 C R xS xT (by omega) (by omega) (by omega) HI.out.ups (φ := VsArg ra rows (some ⟨b, off, none⟩) l) fun w h => h.1
            have HQ := rput_does mq 0 ra rc rows C R ⟨xS, xT, false⟩ (show xS.size ≤ 300 by omega) (show xT.size ≤ 1000 by omega) (by omega) HI.out.ups
            have HS := same_ok (putN C ⟨xS, xT, false⟩) (putN_le _ _)
            have HI2 := Lib.hid (HI.out.put ⟨xS, xT, false⟩ (show xS.size ≤ 300 by omega))
            have HAS := asView_does q p 0 (putL C ⟨xS, xT, false⟩) R mq ra rc rows (by have := HI2.out.c12; omega) (by omega)
            generalize putN C ⟨xS, xT, false⟩ = N at *
            generalize putL C ⟨xS, xT, false⟩ = C' at *
            unfold Ch.v at HQ
            generalize errV N = ev at *
            clear HI
            go_wp2_with (first | ((refine sy_ hO ?_); clear hO; intro w9 hO; (try dsimp only [List.set] at hO); ((try clear hf); have hf := fa_ hO)))
            obtain ⟨ga, hg9⟩ := (hO.pick (r := Var _ [.string xkind, .int .i64 xA, .int .i64 xB, .int .i64 xC, .int .u64 xK, .string xS, .string xT, .slice xcp xch.length xcc, .slice xsp xspn.length xsc] 39) pk_).named; rw [← hg9]; rw [← hg9] at hO; clear hg9
            (refine wp_region_run (fun w8 => Own _ _ w8 [Var ga [.string xkind, .int .i64 xA, .int .i64 xB, .int .i64 xC, .int .u64 xK, .string xS, .string xT, .slice xcp xch.length xcc, .slice xsp xspn.length xsc] 39]) (fun _ _ h hx => h.ext hx) (hO.cut sb_) ((0, 0) :: (0, 1) :: (2, 2) :: (0, 3) :: (2, 4) :: (0, 6) :: (0, 7) :: (2, 8) :: (0, 9) :: (2, 10) :: (0, 11) :: (5, 5) :: (5, 12) :: (5, 13) :: (0, 14) :: []) (by kernel_rfl) (by kernel_rfl) rfl (fun _ _ d _ _ h => by cases d <;> exact h) ?_; intro w9 hx9; replace hO := hO.ext hx9; clear hx9; ((try clear hf); have hf := fa_ hO); (repeat (first | (apply inRun_p _ rfl rfl rfl; focus (intro w8 K8 hK8; (repeat (first | go_skip | go_guarded | go_step)); exact hK8)) | (apply inRun_s _ rfl rfl rfl; focus (intro w8 hI8 K8 hK8; (try clear hf); have hf := hI8.facts; (try simp only [FZ, Nat.reduceAdd] at hf); skip; (repeat (first | go_skip | go_guarded | go_step)); exact hK8)))))
            (refine inRun_d rfl ?_; intro K8 hK8; (repeat (first | go_skip | go_guarded | go_step)); (go_at_call 20; (with_reducible apply Does.use hO (HP); (focus exact tk_); clear hO; intro x9 w9 hO; dsimp only at hO ⊢; simp only [CA] at hO; ((try clear hf); have hf := fa_ hO))); (repeat go_step); refine hK8 _ _ (hO.cut sb_) ?_; clear hK8 K8)
            (refine inRun_d rfl ?_; intro K8 hK8; (repeat (first | go_skip | go_guarded | go_step)); (go_at_call 21; (with_reducible apply Does.use hO (HQ); (focus exact tk_); clear hO; intro x9 w9 hO; dsimp only at hO ⊢; simp only [CA] at hO; ((try clear hf); have hf := fa_ hO))); (repeat go_step); refine hK8 _ _ (hO.cut sb_) ?_; clear hK8 K8)
            (refine inRun_d rfl ?_; intro K8 hK8; (repeat (first | go_skip | go_guarded | go_step)); (go_at_call 19; (with_reducible apply Calls.mono (HS _); rintro e8 w8 ⟨rfl, rfl⟩; dsimp only)); (repeat go_step); refine hK8 _ _ (hO.cut sb_) ?_; clear hK8 K8)
            (repeat (first | (apply inRun_p _ rfl rfl rfl; focus (intro w8 K8 hK8; (repeat (first | go_skip | go_guarded | go_step)); exact hK8)) | (apply inRun_s _ rfl rfl rfl; focus (intro w8 hI8 K8 hK8; (try clear hf); have hf := hI8.facts; (try simp only [FZ, Nat.reduceAdd] at hf); skip; (repeat (first | go_skip | go_guarded | go_step)); exact hK8))))
            refine inRun_nil ?_
            go_wp2_with (first | (go_at_call 29; (with_reducible apply Does.use hO (HAS); (focus exact tk_); clear hO; intro x9 w9 hO; dsimp only at hO ⊢; simp only [CA] at hO; ((try clear hf); have hf := fa_ hO))) | ((refine sy_ hO ?_); clear hO; intro w9 hO; (try dsimp only [List.set] at hO); ((try clear hf); have hf := fa_ hO)))
            (refine And.intro ?_ (by simp [intOf]; omega); (repeat apply Exists.intro); refine And.intro ?_ rfl; exact ⟨j + 1, ma, mc, wa, wc, C', M, R, rfl, rfl, by go_num, by omega, HI2, hO.cut sb_⟩)
          | false =>
            cases hkind2 : xkind.toList == [100, 101, 108, 101, 116, 101] with
            | true =>
              have HP := vDelete_does q p 0 C R xS (by omega) (by omega) HI.out.ups (φ := VsArg ra rows (some ⟨b, off, none⟩) l) fun w h => h.1
              have HQ := rput_does mq 0 ra rc rows C R ⟨xS, ⟨#[]⟩, true⟩ (show xS.size ≤ 300 by omega) (show (0 : Nat) ≤ 1000 by omega) (by omega) HI.out.ups
              have HS := same_ok (putN C ⟨xS, ⟨#[]⟩, true⟩) (putN_le _ _)
              have HI2 := Lib.hid (HI.out.put ⟨xS, ⟨#[]⟩, true⟩ (show xS.size ≤ 300 by omega))
              have HAS := asView_does q p 0 (putL C ⟨xS, ⟨#[]⟩, true⟩) R mq ra rc rows (by have := HI2.out.c12; omega) (by omega)
              generalize putN C ⟨xS, ⟨#[]⟩, true⟩ = N at *
              generalize putL C ⟨xS, ⟨#[]⟩, true⟩ = C' at *
              unfold Ch.v at HQ
              generalize errV N = ev at *
              clear HI
              go_wp2_with (first | ((refine sy_ hO ?_); clear hO; intro w9 hO; (try dsimp only [List.set] at hO); ((try clear hf); have hf := fa_ hO)))
              obtain ⟨ga, hg9⟩ := (hO.pick (r := Var _ [.string xkind, .int .i64 xA, .int .i64 xB, .int .i64 xC, .int .u64 xK, .string xS, .string xT, .slice xcp xch.length xcc, .slice xsp xspn.length xsc] 39) pk_).named; rw [← hg9]; rw [← hg9] at hO; clear hg9
              (refine wp_region_run (fun w8 => Own _ _ w8 [Var ga [.string xkind, .int .i64 xA, .int .i64 xB, .int .i64 xC, .int .u64 xK, .string xS, .string xT, .slice xcp xch.length xcc, .slice xsp xspn.length xsc] 39]) (fun _ _ h hx => h.ext hx) (hO.cut sb_) ((0, 0) :: (0, 1) :: (2, 2) :: (0, 4) :: (0, 5) :: (2, 6) :: (0, 7) :: (5, 3) :: (5, 8) :: (5, 9) :: (0, 10) :: []) (by kernel_rfl) (by kernel_rfl) rfl (fun _ _ d _ _ h => by cases d <;> exact h) ?_; intro w9 hx9; replace hO := hO.ext hx9; clear hx9; ((try clear hf); have hf := fa_ hO); (repeat (first | (apply inRun_p _ rfl rfl rfl; focus (intro w8 K8 hK8; (repeat (first | go_skip | go_guarded | go_step)); exact hK8)) | (apply inRun_s _ rfl rfl rfl; focus (intro w8 hI8 K8 hK8; (try clear hf); have hf := hI8.facts; (try simp only [FZ, Nat.reduceAdd] at hf); skip; (repeat (first | go_skip | go_guarded | go_step)); exact hK8)))))
              (refine inRun_d rfl ?_; intro K8 hK8; (repeat (first | go_skip | go_guarded | go_step)); (go_at_call 22; (with_reducible apply Does.use hO (HP); (focus exact tk_); clear hO; intro x9 w9 hO; dsimp only at hO ⊢; simp only [CA] at hO; ((try clear hf); have hf := fa_ hO))); (repeat go_step); refine hK8 _ _ (hO.cut sb_) ?_; clear hK8 K8)
              (refine inRun_d rfl ?_; intro K8 hK8; (repeat (first | go_skip | go_guarded | go_step)); (go_at_call 21; (with_reducible apply Does.use hO (HQ); (focus exact tk_); clear hO; intro x9 w9 hO; dsimp only at hO ⊢; simp only [CA] at hO; ((try clear hf); have hf := fa_ hO))); (repeat go_step); refine hK8 _ _ (hO.cut sb_) ?_; clear hK8 K8)
              (refine inRun_d rfl ?_; intro K8 hK8; (repeat (first | go_skip | go_guarded | go_step)); (go_at_call 19; (with_reducible apply Calls.mono (HS _); rintro e8 w8 ⟨rfl, rfl⟩; dsimp only)); (repeat go_step); refine hK8 _ _ (hO.cut sb_) ?_; clear hK8 K8)
              (repeat (first | (apply inRun_p _ rfl rfl rfl; focus (intro w8 K8 hK8; (repeat (first | go_skip | go_guarded | go_step)); exact hK8)) | (apply inRun_s _ rfl rfl rfl; focus (intro w8 hI8 K8 hK8; (try clear hf); have hf := hI8.facts; (try simp only [FZ, Nat.reduceAdd] at hf); skip; (repeat (first | go_skip | go_guarded | go_step)); exact hK8))))
              refine inRun_nil ?_
              go_wp2_with (first | (go_at_call 29; (with_reducible apply Does.use hO (HAS); (focus exact tk_); clear hO; intro x9 w9 hO; dsimp only at hO ⊢; simp only [CA] at hO; ((try clear hf); have hf := fa_ hO))) | ((refine sy_ hO ?_); clear hO; intro w9 hO; (try dsimp only [List.set] at hO); ((try clear hf); have hf := fa_ hO)))
              (refine And.intro ?_ (by simp [intOf]; omega); (repeat apply Exists.intro); refine And.intro ?_ rfl; exact ⟨j + 1, ma, mc, wa, wc, C', M, R, rfl, rfl, by go_num, by omega, HI2, hO.cut sb_⟩)
            | false =>
              cases hkind3 : xkind.toList == [115, 99, 97, 110] with
              | true =>
                have hL := fun lo hi => scan_view HUP.out C lo hi
                have HSC := fun lo hi => vwScan_does q p 0 0 (newV rows) C R lo hi xA _ (hL lo hi) (newV_nodup HUP.out) (by omega) (by omega) (by rw [newV_length]; omega) (newV_len1 rows) (view_keys HKS.out C lo hi HI.out.good)
                have HRS := fun lo hi => rscan_does mq 0 ra rc rows C R lo hi xA _ rfl (by omega) (by omega) (by omega) (view_keys HKS.out C lo hi HI.out.good)
                have HAS := fun lo hi => asView_does q p 0 C (scnB (inR lo hi (C.foldl appR rows)) R lo hi xA) mq ra rc rows (by omega) (by have := (HI.out.scan (inR lo hi (C.foldl appR rows)) lo hi xA).r40; omega)
                have HI2 := fun lo hi => Lib.hid (HI.out.scan (inR lo hi (C.foldl appR rows)) lo hi xA)
                have HS := fun lo hi => same_ok (scnN (inR lo hi (C.foldl appR rows)) R lo hi xA) (scnN_le _ _ _ _ _)
                have HLN := fun lo hi => scnO_len (inR lo hi (C.foldl appR rows)) R lo hi xA
                have HLR := fun lo hi => inR_len rows C lo hi
                have HSR := fun lo hi (a1 a2 : Option Addr) (c1 c2 : Nat) w => sameRows_any a1 a2 (scnO (inR lo hi (C.foldl appR rows)) R lo hi xA).length c1 c2 (scnO (inR lo hi (C.foldl appR rows)) R lo hi xA) w rfl (by have := HLN lo hi; have := HLR lo hi; omega)
                clear hL HLN HLR HI
                cases xspn with
                | nil =>
                  replace HSC := HSC ⟨#[]⟩ ⟨#[]⟩
                  replace HRS := HRS ⟨#[]⟩ ⟨#[]⟩
                  replace HAS := HAS ⟨#[]⟩ ⟨#[]⟩
                  replace HI2 := HI2 ⟨#[]⟩ ⟨#[]⟩
                  replace HS := HS ⟨#[]⟩ ⟨#[]⟩
                  replace HSR := HSR ⟨#[]⟩ ⟨#[]⟩
                  generalize inR ⟨#[]⟩ ⟨#[]⟩ (C.foldl appR rows) = L at *
                  generalize scnO L R ⟨#[]⟩ ⟨#[]⟩ xA = O at *
                  generalize scnN L R ⟨#[]⟩ ⟨#[]⟩ xA = N at *
                  generalize scnB L R ⟨#[]⟩ ⟨#[]⟩ xA = R' at *
                  generalize errV N = ev at *
                  go_wp2_with (first | (go_at_call 23; (with_reducible apply Does.use hO (HSC); (focus exact tk_); clear hO; intro x9 w9 hO; dsimp only at hO ⊢; simp only [CA] at hO; ((try clear hf); have hf := fa_ hO); (obtain ⟨za, zc⟩ := x9; dsimp only at hO ⊢; ((try clear hf); have hf := fa_ hO)))) | (go_at_call 24; (with_reducible apply Does.use hO (HRS); (focus exact tk_); clear hO; intro x9 w9 hO; dsimp only at hO ⊢; simp only [CA] at hO; ((try clear hf); have hf := fa_ hO); (obtain ⟨ya, yc⟩ := x9; dsimp only at hO ⊢; ((try clear hf); have hf := fa_ hO)))) | (go_at_call 19; (with_reducible apply Calls.mono (HS _); rintro e8 w8 ⟨rfl, rfl⟩; dsimp only)) | (go_at_call 25; (with_reducible apply Calls.mono (HSR _ _ _ _ _ (rowV (hO.factOf (r := Row2 80 2 za O.length zc (O.flatMap rwC)) pk_)) (Own.immOf (φ := fun w => ValsAt w ya (O.flatMap rwC)) hO pk_)); rintro e8 w8 ⟨rfl, hx8⟩; replace hO := hO.ext hx8; clear hx8; dsimp only; ((try clear hf); have hf := fa_ hO))) | (go_at_call 29; (with_reducible apply Does.use hO (HAS); (focus exact tk_); clear hO; intro x9 w9 hO; dsimp only at hO ⊢; simp only [CA] at hO; ((try clear hf); have hf := fa_ hO))) | ((refine sy_ hO ?_); clear hO; intro w9 hO; (try dsimp only [List.set] at hO); ((try clear hf); have hf := fa_ hO)))
                  (refine ⟨⟨j + 1, ma, mc, wa, wc, C, M, R', rfl, rfl, by go_num, by omega, HI2, hO.cut sb_⟩, by simp [intOf]; omega⟩)
                | cons y ys =>
                  have hsp1 := hspn _ (Own.immOf (φ := VsArg ra rows (some ⟨b, off, none⟩) l) hO pk_)
                  rcases hsp1 with h0 | ⟨b3, o3, rfl, _⟩
                  · cases h0
                  have hsp0 := fun w (h : VsArg ra rows (some ⟨b, off, none⟩) l w) => show w.cell? ⟨b3, o3 + 0 * 2, none⟩ = some (.string y.lo) ∧ w.cell? ⟨b3, o3 + 0 * 2 + 1, none⟩ = some (.string y.hi) from by
                    rcases hspn w h with h0 | ⟨b', off', he, hc⟩
                    · cases h0
                    · simp only [Option.some.injEq, Addr.mk.injEq, and_true] at he
                      obtain ⟨rfl, rfl⟩ := he
                      exact hc 0 (by simp)
                  simp only [Nat.zero_mul, Nat.add_zero] at hsp0
                  have hO := (hO.pick (r := .imm (VsArg ra rows (some ⟨b, off, none⟩) l)) pk_).again.imp (ψ := fun w => w.cell? ⟨b3, o3, none⟩ = some (.string y.lo) ∧ w.cell? ⟨b3, o3 + 1, none⟩ = some (.string y.hi)) fun w h => hsp0 w h
                  clear hsp0 hspn
                  obtain ⟨ylo, yhi⟩ := y
                  dsimp only at hO
                  replace HSC := HSC ylo yhi
                  replace HRS := HRS ylo yhi
                  replace HAS := HAS ylo yhi
                  replace HI2 := HI2 ylo yhi
                  replace HS := HS ylo yhi
                  replace HSR := HSR ylo yhi
                  generalize inR ylo yhi (C.foldl appR rows) = L at *
                  generalize scnO L R ylo yhi xA = O at *
                  generalize scnN L R ylo yhi xA = N at *
                  generalize scnB L R ylo yhi xA = R' at *
                  generalize errV N = ev at *
                  simp only [List.length_cons] at k8
                  generalize ys.length = yn at *
                  ((try clear hf); have hf := fa_ hO)
                  go_wp2_with (first | (go_at_call 23; (with_reducible apply Does.use hO (HSC); (focus exact tk_); clear hO; intro x9 w9 hO; dsimp only at hO ⊢; simp only [CA] at hO; ((try clear hf); have hf := fa_ hO); (obtain ⟨za, zc⟩ := x9; dsimp only at hO ⊢; ((try clear hf); have hf := fa_ hO)))) | (go_at_call 24; (with_reducible apply Does.use hO (HRS); (focus exact tk_); clear hO; intro x9 w9 hO; dsimp only at hO ⊢; simp only [CA] at hO; ((try clear hf); have hf := fa_ hO); (obtain ⟨ya, yc⟩ := x9; dsimp only at hO ⊢; ((try clear hf); have hf := fa_ hO)))) | (go_at_call 19; (with_reducible apply Calls.mono (HS _); rintro e8 w8 ⟨rfl, rfl⟩; dsimp only)) | (go_at_call 25; (with_reducible apply Calls.mono (HSR _ _ _ _ _ (rowV (hO.factOf (r := Row2 80 2 za O.length zc (O.flatMap rwC)) pk_)) (Own.immOf (φ := fun w => ValsAt w ya (O.flatMap rwC)) hO pk_)); rintro e8 w8 ⟨rfl, hx8⟩; replace hO := hO.ext hx8; clear hx8; dsimp only; ((try clear hf); have hf := fa_ hO))) | (go_at_call 29; (with_reducible apply Does.use hO (HAS); (focus exact tk_); clear hO; intro x9 w9 hO; dsimp only at hO ⊢; simp only [CA] at hO; ((try clear hf); have hf := fa_ hO))) | ((refine sy_ hO ?_); clear hO; intro w9 hO; (try dsimp only [List.set] at hO); ((try clear hf); have hf := fa_ hO)))
                  (refine ⟨⟨j + 1, ma, mc, wa, wc, C, M, R', rfl, rfl, by go_num, by omega, HI2, hO.cut sb_⟩, by simp [intOf]; omega⟩)
              | false =>
                cases hkind4 : xkind.toList == [109, 97, 114, 107] with
                | true =>
                  have HMK := vMark_does q p 0 C R (by omega)
                  have HAS := asView_does q p 0 C R mq ra rc rows (by omega) (by omega)
                  have HI2 := Lib.hid HI.out.mark
                  clear HI
                  obtain ⟨ca, cc, sa, sc, hO⟩ := hO.ofRView (C := C) (R := R) pk_
                  have hO := (hO.pick (r := .imm fun w => ChAt w ca C) pk_).again
                  ((try clear hf); have hf := fa_ hO)
                  go_upto_region 36 with (first | (go_at_call 18; (with_reducible apply Does.use hO (HMK); (focus exact tk_); clear hO; intro x9 w9 hO; dsimp only at hO ⊢; simp only [CA] at hO; ((try clear hf); have hf := fa_ hO); (obtain ⟨na, nc⟩ := x9; dsimp only at hO ⊢; ((try clear hf); have hf := fa_ hO)))) | ((refine sy_ hO ?_); clear hO; intro w9 hO; (try dsimp only [List.set] at hO); ((try clear hf); have hf := fa_ hO)))
                  have hO := hO.toRView (ca := ca) (cc := cc) (C := C) (R := R) tk_
                  have hO := hO.rowCi (a := na) (C := C) pk_
                  go_wp2_with (first | (go_at_call 29; (with_reducible apply Does.use hO (HAS); (focus exact tk_); clear hO; intro x9 w9 hO; dsimp only at hO ⊢; simp only [CA] at hO; ((try clear hf); have hf := fa_ hO))) | ((refine sy_ hO ?_); clear hO; intro w9 hO; (try dsimp only [List.set] at hO); ((try clear hf); have hf := fa_ hO)))
                  (refine ⟨⟨j + 1, na, nc, ca, cc, C, C, R, rfl, rfl, by go_num, by omega, HI2, hO.cut sb_⟩, by simp [intOf]; omega⟩)
                | false =>
                  cases hkind5 : xkind.toList == [98, 97, 99, 107] with
                  | true =>
                    have HBK := vBack_does q p 0 C R ma mc M (by omega)
                    have HAS := asView_does q p 0 M R mq ra rc rows (by omega) (by omega)
                    have HI2 := Lib.hid HI.out.back
                    clear HI
                    obtain ⟨ca, cc, sa, sc, hO⟩ := hO.ofRView (C := C) (R := R) pk_
                    have hO := (hO.pick (r := .imm fun w => ChAt w wa M) pk_).again
                    ((try clear hf); have hf := fa_ hO)
                    go_upto_region 36 with (first | (go_at_call 26; (with_reducible apply Does.use hO (HBK); (focus exact tk_); clear hO; intro x9 w9 hO; dsimp only at hO ⊢; simp only [CA] at hO; ((try clear hf); have hf := fa_ hO))) | ((refine sy_ hO ?_); clear hO; intro w9 hO; (try dsimp only [List.set] at hO); ((try clear hf); have hf := fa_ hO)))
                    have hO := hO.toRView (ca := wa) (cc := wc) (C := M) (R := R) tk_
                    go_wp2_with (first | (go_at_call 29; (with_reducible apply Does.use hO (HAS); (focus exact tk_); clear hO; intro x9 w9 hO; dsimp only at hO ⊢; simp only [CA] at hO; ((try clear hf); have hf := fa_ hO))) | ((refine sy_ hO ?_); clear hO; intro w9 hO; (try dsimp only [List.set] at hO); ((try clear hf); have hf := fa_ hO)))
                    (refine ⟨⟨j + 1, ma, mc, wa, wc, M, M, R, rfl, rfl, by go_num, by omega, HI2, hO.cut sb_⟩, by simp [intOf]; omega⟩)
                  | false =>
                    have HGT := vget_does q p 0 0 (newV rows) C R xS (by omega) (by omega) HI.out.ups (by omega) (newV_len rows) (φ := VsArg ra rows (some ⟨b, off, none⟩) l) fun w h => h.1
                    have HRG := rget_does mq 0 ra rc rows C R xS (by omega) (by omega) (by omega) (by omega)
                    rw [getA_G, newV_read rows xS (by omega)] at HGT
                    have HS := same_ok (getG (valR rows xS) C R xS).2.2 (getG_le _ _ _ _)
                    have HI2 := Lib.hid (HI.out.read xS)
                    have HAS := asView_does q p 0 C (getB C R xS) mq ra rc rows (by omega) (by have := HI2.out.r40; omega)
                    generalize getG (valR rows xS) C R xS = y at *
                    generalize getB C R xS = R' at *
                    obtain ⟨yv, yb, yn⟩ := y
                    dsimp only at HGT HRG HS
                    generalize errV yn = ev at *
                    clear HI
                    go_wp2_with (first | (go_at_call 27; (with_reducible apply Does.use hO (HGT); (focus exact tk_); clear hO; intro x9 w9 hO; dsimp only at hO ⊢; simp only [CA] at hO; ((try clear hf); have hf := fa_ hO))) | (go_at_call 28; (with_reducible apply Does.use hO (HRG); (focus exact tk_); clear hO; intro x9 w9 hO; dsimp only at hO ⊢; simp only [CA] at hO; ((try clear hf); have hf := fa_ hO))) | (go_at_call 19; (with_reducible apply Calls.mono (HS _); rintro e8 w8 ⟨rfl, rfl⟩; dsimp only)) | (go_at_call 29; (with_reducible apply Does.use hO (HAS); (focus exact tk_); clear hO; intro x9 w9 hO; dsimp only at hO ⊢; simp only [CA] at hO; ((try clear hf); have hf := fa_ hO))) | ((refine sy_ hO ?_); clear hO; intro w9 hO; (try dsimp only [List.set] at hO); ((try clear hf); have hf := fa_ hO)))
                    (refine ⟨⟨j + 1, ma, mc, wa, wc, C, M, R', rfl, rfl, by go_num, by omega, HI2, hO.cut sb_⟩, by simp [intOf]; omega⟩)
        · obtain rfl : j = m := by omega
          go_wp2_with (first | ((refine sy_ hO ?_); clear hO; intro w9 hO; (try dsimp only [List.set] at hO); ((try clear hf); have hf := fa_ hO)))
          go_ret
          exact ⟨rfl, hO.toExt⟩
end Go.Proofs.YtmknhibaoopjjaaGreatDoor
namespace Go.Proofs.YtmknhibaoopjjaaGreatDoor
open Go.RowKit
theorem below_to (a b k : ByteArray) : below k (toOf a b) = (below k a && below k b) := by
  unfold toOf below
  cases ha : a.toList.isEmpty <;> cases hb : b.toList.isEmpty <;> simp [ha, hb]
  cases h : slt b a
  · simp only [Bool.false_eq_true, if_false, ha, Bool.false_or]
    cases k1 : slt k a
    · rfl
    · simp [slt_of_slt_of_not k1 h]
  · simp only [if_true, hb, Bool.false_or]
    cases k1 : slt k b
    · simp
    · simp [slt_trans k1 h]
theorem has_both (a b : Sp) (k : ByteArray) : (a.both b).has k = (a.has k && b.has k) := by
  unfold Sp.has Sp.both
  simp only [below_to]
  have : (!slt k (if slt a.lo b.lo = true then b.lo else a.lo)) = (!slt k a.lo && !slt k b.lo) := by
    cases h : slt a.lo b.lo
    · simp only [Bool.false_eq_true, if_false]
      cases k1 : slt k a.lo
      · simp [not_slt_trans k1 h]
      · simp
    · simp only [if_true]
      cases k1 : slt k b.lo
      · cases k2 : slt k a.lo
        · rfl
        · rw [slt_trans k2 h] at k1; cases k1
      · simp
  rw [this]
  cases slt k a.lo <;> cases slt k b.lo <;> cases below k a.hi <;> cases below k b.hi <;> rfl
theorem has_hasB (lo hi k : ByteArray) : Sp.has ⟨lo, hi⟩ k = hasB lo hi k := rfl
theorem slt_nil (k : ByteArray) : slt k ⟨#[]⟩ = false := by
  unfold slt
  rw [show (⟨#[]⟩ : ByteArray).toList = [] from by rw [ByteArray.toList_eq]]
  cases k.toList <;> rfl
theorem has_upto (x k : ByteArray) : Sp.has ⟨⟨#[]⟩, x ++ nul⟩ k = !slt x k := by
  unfold Sp.has below
  dsimp only
  rw [slt_nil, slt_nul_iff]
  have : (x ++ nul).toList.isEmpty = false := by rw [toList_append, nul_toList]; simp
  rw [this]
  simp
def eqR (x r : Rw) : Bool := decide (x.key = r.key) && decide (x.val = r.val)
def toldR (l : List Rw) (r : Rw) : Bool := l.any fun x => eqR x r
theorem eqR_iff {x r : Rw} : eqR x r = true ↔ x = r := by
  obtain ⟨a, b⟩ := x
  obtain ⟨c, d⟩ := r
  unfold eqR
  simp
theorem toldR_iff {l : List Rw} {r : Rw} : toldR l r = true ↔ r ∈ l := by
  unfold toldR
  rw [List.any_eq_true]
  exact ⟨fun ⟨x, hx, he⟩ => eqR_iff.1 he ▸ hx, fun h => ⟨r, h, eqR_iff.2 rfl⟩⟩
theorem toldR_yes {l : List Rw} {r : Rw} (h : r ∈ l) : toldR l r = true := toldR_iff.2 h
theorem toldR_no {l : List Rw} {r : Rw} (h : ¬ r ∈ l) : toldR l r = false := by
  cases hh : toldR l r with
  | true => exact absurd (toldR_iff.1 hh) h
  | false => rfl
/-- A row that is there is among the first ones just if it is in what they span. -/
theorem read_told {rows : List Rw} (h : RUps rows) (lo hi : ByteArray) {n : Nat} (h1 : 1 ≤ n) {r : Rw} (hr : r ∈ rows) :
    (scnS (inR lo hi rows) lo hi n).has r.key = toldR ((inR lo hi rows).take n) r := by
  have hL : RUps (inR lo hi rows) := List.Pairwise.filter _ h
  have hm : r ∈ inR lo hi rows ↔ hasB lo hi r.key = true := ⟨fun hh => (List.mem_filter.1 hh).2, fun hh => List.mem_filter.2 ⟨hr, hh⟩⟩
  generalize inR lo hi rows = L at *
  by_cases hn : n ≤ L.length
  · rw [scnS_cut lo hi h1 hn, has_both, has_hasB, has_upto]
    have hk : n - 1 < L.length := by omega
    by_cases hb : hasB lo hi r.key = true
    · obtain ⟨i, hi2, hx⟩ := List.getElem_of_mem (hm.2 hb)
      rw [hb, Bool.true_and, ← hx]
      have hlt : ∀ (a b : Nat) (ha : a < L.length) (hb : b < L.length), a < b → slt L[a].key L[b].key = true := fun a b ha hb hab => List.pairwise_iff_getElem.1 hL a b ha hb hab
      by_cases hin : i < n
      · rw [toldR_yes (show L[i] ∈ L.take n from List.mem_iff_getElem.2 ⟨i, by rw [List.length_take]; omega, by rw [List.getElem_take]⟩)]
        rcases Nat.lt_or_ge i (n - 1) with h2 | h2
        · rw [slt_asymm (hlt i (n - 1) hi2 hk h2)]; rfl
        · have : i = n - 1 := by omega
          subst this; rw [slt_irrefl]; rfl
      · have h3 : ¬ L[i] ∈ L.take n := fun hh => by
          obtain ⟨j, hj, he⟩ := List.getElem_of_mem hh
          rw [List.length_take] at hj
          rw [List.getElem_take] at he
          have := hlt j i (by omega) hi2 (by omega)
          rw [he, slt_irrefl] at this; cases this
        rw [toldR_no h3, hlt (n - 1) i hk hi2 (by omega)]; rfl
    · have h3 : ¬ r ∈ L.take n := fun hh => hb (hm.1 (List.mem_of_mem_take hh))
      rw [toldR_no h3]
      simp [hb]
  · rw [scnS_all lo hi (by omega), has_hasB, List.take_of_length_le (l := L) (i := n) (by omega)]
    by_cases hb : hasB lo hi r.key = true
    · rw [hb, toldR_yes (hm.2 hb)]
    · rw [toldR_no (fun hh => hb (hm.1 hh))]; simpa using hb
theorem note_one (s : Sp) : noteN [] s = 0 ∧ noteR [] s = [s] := ⟨rfl, rfl⟩
theorem scn_new {L : List Rw} {lo hi : ByteArray} {n : Nat} (h1 : 1 ≤ n) : scnN L [] lo hi n = 0 ∧ scnB L [] lo hi n = [scnS L lo hi n] ∧ scnO L [] lo hi n = L.take n := by
  obtain ⟨e1, e2, e3⟩ := scn_of (L := L) (R := []) (lo := lo) (hi := hi) (most := (n : Int)) (s := scnS L lo hi n) (by omega) rfl
  obtain ⟨f1, f2⟩ := note_one (scnS L lo hi n)
  rw [f1] at e1 e3
  rw [f2] at e2
  exact ⟨e1, e2, e3⟩
theorem spans_at {w : World} {a : Option Addr} {l : List Sp} (h : ValsAt w a (l.flatMap spC)) : SpansAt w a l := by
  cases l with
  | nil => exact .inl rfl
  | cons s l =>
    obtain ⟨b, off, rfl⟩ := sp_some (i := 0) h (by simp)
    exact .inr ⟨b, off, rfl, fun i hi => sp_cells h hi⟩
end Go.Proofs.YtmknhibaoopjjaaGreatDoor
namespace Go.Proofs.YtmknhibaoopjjaaGreatDoor
open Go.RowKit
def kTB : ByteArray := ⟨#[116, 47, 98]⟩
def rAB : List Rw := [⟨kTA, ⟨#[]⟩⟩, ⟨kTB, ⟨#[]⟩⟩]
theorem rAB_ups : RUps rAB := by
  unfold RUps rAB
  rw [List.pairwise_cons]
  refine ⟨fun y hy => ?_, List.pairwise_singleton ..⟩
  rw [List.mem_singleton.1 hy]
  show slt kTA kTB = true
  unfold slt kTA kTB
  rw [ByteArray.toList_eq, ByteArray.toList_eq]
  decide
theorem hasB_all (k : ByteArray) : hasB ⟨#[]⟩ ⟨#[]⟩ k = true := by
  unfold hasB belowB
  rw [slt_nil, show (⟨#[]⟩ : ByteArray).toList = [] from by rw [ByteArray.toList_eq]]
  rfl
theorem in_rAB : inR ⟨#[]⟩ ⟨#[]⟩ rAB = rAB := List.filter_eq_self.2 fun r _ => hasB_all r.key
theorem not_read : (scnS rAB ⟨#[]⟩ ⟨#[]⟩ (1 : Nat)).has kTB = false := by
  have h := read_told (rows := rAB) rAB_ups ⟨#[]⟩ ⟨#[]⟩ (n := 1) (by omega) (r := ⟨kTB, ⟨#[]⟩⟩) (List.mem_cons_of_mem _ (List.mem_singleton_self _))
  rw [in_rAB] at h
  rw [show (⟨kTB, ⟨#[]⟩⟩ : Rw).key = kTB from rfl] at h
  rw [h]
  refine toldR_no fun hh => ?_
  have h2 := List.mem_singleton.1 (show (⟨kTB, ⟨#[]⟩⟩ : Rw) ∈ [(⟨kTA, ⟨#[]⟩⟩ : Rw)] from hh)
  have h3 := congrArg (fun r : Rw => r.key.data.toList) h2
  exact absurd h3 (by decide)
theorem Own.varRwsN {S : Nat → Prop} {W w : World} {l : List Rs} {b : Nat} {L : List Rw} {t : TypeId} (h : Own S W w (Var b (L.flatMap rwC) t :: l)) : Own S W w (.imm (fun w => ValsAt w (some ⟨b, 0, none⟩) (L.flatMap rwC)) :: l) :=
  h.toImm (r := Var b (L.flatMap rwC) t) fun w hf => .inr ⟨b, 0, rfl, fun i hi => Var.at (t := t) hf i _ (List.getElem?_eq_getElem hi)⟩
def TrArg (ra : Option Addr) (rows : List Rw) (w : World) : Prop := LibOk w ∧ ValsAt w ra (rows.flatMap rwC)
theorem TrArg.base {ra : Option Addr} {rows : List Rw} {w : World} (h : TrArg ra rows w) : Own (fun _ => False) w w [.imm (TrArg ra rows)] :=
  Own.base w _ fun w' hw' => ⟨h.1.up hw', vals_up h.2 hw'⟩
theorem vals_pre {w : World} {a : Option Addr} {L : List Rw} {k : Nat} (h : ValsAt w a (L.flatMap rwC)) : ValsAt w a ((L.take k).flatMap rwC) := by
  rw [← rws_take]
  rcases h with h | ⟨b, off, rfl, hc⟩
  · rw [h]; exact .inl (List.take_nil)
  · refine .inr ⟨b, off, rfl, fun i hi => ?_⟩
    rw [List.length_take] at hi
    rw [List.getElem_take]
    exact hc i (by omega)
theorem scan_new {rows : List Rw} (h : RUps rows) (lo hi : ByteArray) : (inC lo hi []).foldl appR (scanV (newV rows) (hasB lo hi) 0) = inR lo hi rows := by
  rw [scan_view h]; rfl
theorem new_keys {rows : List Rw} (h : ∀ r ∈ rows, r.key.size ≤ 60 ∧ r.val.size ≤ 40) (lo hi : ByteArray) : ∀ r ∈ inR lo hi rows, r.key.size ≤ 300 := fun r hr => by
  have := (h r (List.mem_filter.1 hr).1).1; omega
theorem toldR_step {A : List Rw} {k : Nat} (r : Rw) (hk : k < A.length) : toldR (A.take (k + 1)) r = (toldR (A.take k) r || eqR A[k] r) := by
  unfold toldR
  rw [List.take_add_one, List.getElem?_eq_getElem hk, List.any_append]
  simp
set_option maxHeartbeats 8000000 in
set_option maxRecDepth 100000 in
theorem topRead_any (ra : Option Addr) (n0 rc : Nat) (rows : List Rw) (lo hi : ByteArray) (n m : Int) (W : World) (hφ : TrArg ra rows W) (hrl : rows.length = n0) (hn0 : n0 ≤ 9223372036854775807) :
    Calls Tryz.prog 6 #[.slice ra n0 rc, .agg #[.string lo, .string hi], .int .i64 n, .int .i64 m] W fun e w' => e = .returned (.bool true) ∧ Ext W w' := by
  have hO := hφ.base
  have HSP : ∀ w b, (Var b [.string lo, .string hi] 49).facts w → Calls Tryz.prog 45 #[.slice (some ⟨b, 0, none⟩) 1 1] w fun e w' => e = .returned (.bool (lightSpans [⟨lo, hi⟩])) ∧ w' = w := fun w b h =>
    lightSpans_any (some ⟨b, 0, none⟩) 1 [⟨lo, hi⟩] w (by unfold maxLen; simp) (spans_at (.inr ⟨b, 0, rfl, fun i hi' => Var.at (t := 49) h i _ (List.getElem?_eq_getElem hi')⟩))
  have HN0 := fun b => vnew_does (some ⟨b, 0, none⟩) 2 2 rAB rfl (by omega) rAB_ups.keys
  have HVN := fun p r => vwNew_does p 0 (newV r)
  have HALL : ∀ w, Calls Tryz.prog 41 #[] w fun e w' => e = .returned (.agg #[.string ⟨#[]⟩, .string ⟨#[]⟩]) ∧ Ext w w' := fun w => all_any w
  have HG := fun w (h : TrArg ra rows w) => goodRowsT_any ra n0 rc rows hrl hn0 w h.1 h.2
  obtain ⟨f1, f2, f3⟩ := scn_new (L := rAB) (lo := ⟨#[]⟩) (hi := ⟨#[]⟩) (n := 1) (by omega)
  have HS0 := fun q p => vwScan_does q p 0 0 (newV rAB) [] [] ⟨#[]⟩ ⟨#[]⟩ ((1 : Nat) : Int) rAB ((scan_new rAB_ups _ _).trans in_rAB) (newV_nodup rAB_ups) (by simp) (by simp) (by rw [newV_length]; decide) (newV_len1 rAB) (fun r hr => by
    rcases List.mem_cons.1 hr with rfl | hr
    · decide
    · rw [List.mem_singleton.1 hr]; decide)
  have hnr := not_read
  simp only [f1, f2, f3] at HS0
  rw [show errV 0 = .nilIface from rfl] at HS0
  simp only [show ((1 : Nat) : Int) = (1 : Int) from rfl] at HS0
  have HR0 := fun q p => vReads_does q p 0 [] [scnS rAB ⟨#[]⟩ ⟨#[]⟩ (1 : Nat)] (by simp)
  have HANY0 := fun a c w h => any_any a c [scnS rAB ⟨#[]⟩ ⟨#[]⟩ (1 : Nat)] kTB w (by simp [maxLen]) h
  rw [show [scnS rAB ⟨#[]⟩ ⟨#[]⟩ (1 : Nat)].any (fun s => s.has kTB) = false from by rw [List.any_cons, hnr]; rfl] at HANY0
  clear f1 f2 f3 hnr
  generalize scnS rAB ⟨#[]⟩ ⟨#[]⟩ (1 : Nat) = s0 at *
  rw [show kTB = ⟨#[116, 47, 98]⟩ from rfl] at HANY0
  simp only [show rAB.take 1 = [⟨kTA, ⟨#[]⟩⟩] from rfl, List.length_singleton, show ∀ s : Sp, [s].flatMap spC = [.string s.lo, .string s.hi] from fun _ => rfl] at HS0 HR0 HANY0
  ((try clear hf); have hf := fa_ hO)
  go_enter Tryz.func6, Tryz.ntmps6
  go_upto_region 5 with (first | (go_at_call 17; (replace hO := ((hO.pick (r := Var _ [.string ⟨#[116, 47, 97]⟩, .string ⟨#[]⟩, .string ⟨#[116, 47, 98]⟩, .string ⟨#[]⟩] 80) pk_).varRwsN (L := rAB)); with_reducible refine Does.use hO (HN0 _) tk_ ?_; clear hO; intro x9 w9 hO; dsimp only at hO ⊢; simp only [List.cons_append, List.nil_append] at hO; rename Nat => p; ((try clear hf); have hf := fa_ hO))) | (go_at_call 16; (with_reducible apply Does.use hO (HVN _ _); (focus exact tk_); clear hO; intro x9 w9 hO; dsimp only at hO ⊢; simp only [CA] at hO; ((try clear hf); have hf := fa_ hO); rename Nat => q)) | (go_at_call 41; (with_reducible apply Calls.mono (HALL _); rintro e8 w8 ⟨rfl, hx8⟩; replace hO := hO.ext hx8; clear hx8; dsimp only; ((try clear hf); have hf := fa_ hO))) | (go_at_call 23; (with_reducible apply Does.use hO (HS0 _ _); (focus exact tk_); clear hO; intro x9 w9 hO; dsimp only at hO ⊢; simp only [CA] at hO; ((try clear hf); have hf := fa_ hO); (obtain ⟨xa, xc⟩ := x9; dsimp only at hO ⊢; ((try clear hf); have hf := fa_ hO)))) | (go_at_call 42; (with_reducible apply Does.use hO (HR0 _ _); (focus exact tk_); clear hO; intro x9 w9 hO; dsimp only at hO ⊢; simp only [CA] at hO; ((try clear hf); have hf := fa_ hO); (obtain ⟨za, zc⟩ := x9; dsimp only at hO ⊢; ((try clear hf); have hf := fa_ hO)))) | (go_at_call 43; (with_reducible apply Calls.mono (HANY0 _ _ _ (spans_at (Own.immOf (φ := fun w => ValsAt w za [.string s0.lo, .string s0.hi]) hO pk_))); rintro e8 w8 ⟨rfl, hx8⟩; replace hO := hO.ext hx8; clear hx8; dsimp only; ((try clear hf); have hf := fa_ hO))) | ((refine sy_ hO ?_); clear hO; intro w9 hO; (try dsimp only [List.set] at hO); ((try clear hf); have hf := fa_ hO)))
  cases hgr : goodR rows with
  | false =>
    rw [hgr] at HG
    clear HSP
    go_wp2_with (first | (go_at_call 44; (with_reducible apply Calls.mono (HG _ (Own.immOf (φ := TrArg ra rows) hO pk_)); rintro e8 w8 ⟨rfl, hx8⟩; replace hO := hO.ext hx8; clear hx8; dsimp only; ((try clear hf); have hf := fa_ hO))) | ((refine sy_ hO ?_); clear hO; intro w9 hO; (try dsimp only [List.set] at hO); ((try clear hf); have hf := fa_ hO)))
    all_goals try (exfalso; omega; done)
    go_ret
    exact ⟨rfl, hO.toExt⟩
  | true =>
    rw [hgr] at HG
    cases hsp : lightSpans [⟨lo, hi⟩] with
    | false =>
      rw [hsp] at HSP
      go_wp2_with (first | (go_at_call 44; (with_reducible apply Calls.mono (HG _ (Own.immOf (φ := TrArg ra rows) hO pk_)); rintro e8 w8 ⟨rfl, hx8⟩; replace hO := hO.ext hx8; clear hx8; dsimp only; ((try clear hf); have hf := fa_ hO))) | (go_at_call 45; (with_reducible apply Calls.mono (HSP _ _ (hO.factOf (r := Var _ [.string lo, .string hi] 49) pk_)); rintro e8 w8 ⟨rfl, rfl⟩; dsimp only)) | ((refine sy_ hO ?_); clear hO; intro w9 hO; (try dsimp only [List.set] at hO); ((try clear hf); have hf := fa_ hO)))
      all_goals try (exfalso; omega; done)
      go_ret
      exact ⟨rfl, hO.toExt⟩
    | true =>
      rw [hsp] at HSP
      clear hsp
      by_cases hnm : 1 ≤ n ∧ n ≤ 100 ∧ n ≤ m ∧ m ≤ 200
      · obtain ⟨hn1, hn2, hn3, hn4⟩ := hnm
        obtain ⟨h50, hup, hks⟩ := goodR_ok hgr
        obtain ⟨kn, rfl⟩ : ∃ k : Nat, n = (k : Int) := ⟨n.toNat, by omega⟩
        obtain ⟨km, rfl⟩ : ∃ k : Nat, m = (k : Int) := ⟨m.toNat, by omega⟩
        have HN := vnew_does ra n0 rc rows hrl (by omega) hup.keys
        have hscan := fun (q p k : Nat) => vwScan_does q p 0 0 (newV rows) [] [] lo hi (k : Int) (inR lo hi rows) (scan_new hup _ _) (newV_nodup hup) (by simp) (by simp) (by rw [newV_length]; omega) (newV_len1 rows) (new_keys hks lo hi)
        have HS1 := fun q p => hscan q p kn
        have HS2 := fun q p => hscan q p km
        obtain ⟨f1, f2, f3⟩ := scn_new (L := inR lo hi rows) (lo := lo) (hi := hi) (n := kn) (by omega)
        obtain ⟨g1, g2, g3⟩ := scn_new (L := inR lo hi rows) (lo := lo) (hi := hi) (n := km) (by omega)
        simp only [f1, f2, f3] at HS1
        simp only [g1, g2, g3] at HS2
        rw [show errV 0 = .nilIface from rfl] at HS1 HS2
        have HRT := Lib.hid (fun (r : Rw) (hr : r ∈ rows) => read_told hup lo hi (n := kn) (by omega) hr)
        have htt : ((inR lo hi rows).take km).take kn = (inR lo hi rows).take kn := by rw [List.take_take, Nat.min_eq_left (by omega)]
        have hla : ((inR lo hi rows).take kn).length = min kn (inR lo hi rows).length := List.length_take
        have hlb : ((inR lo hi rows).take km).length = min km (inR lo hi rows).length := List.length_take
        have hll : (inR lo hi rows).length ≤ rows.length := List.length_filter_le _ _
        clear hscan f1 f2 f3 g1 g2 g3 hks hgr
        generalize inR lo hi rows = L at *
        generalize scnS L lo hi kn = s1 at *
        generalize scnS L lo hi km = s2 at *
        obtain ⟨A, hA⟩ : ∃ A, A = L.take kn := ⟨_, rfl⟩
        obtain ⟨B, hB⟩ : ∃ B, B = L.take km := ⟨_, rfl⟩
        rw [← hA] at HS1 HRT htt hla
        rw [← hB] at HS2 htt hlb
        clear hA hB
        have hal : A.length ≤ kn := by omega
        have hbl : A.length ≤ B.length := by omega
        have hb50 : B.length ≤ 50 := by omega
        have HEQ := Lib.hid (show A.length = kn ∨ B.length = A.length by omega)
        have HSA := fun a b c d w (h1 : ValsAt w a (B.flatMap rwC)) (h2 : ValsAt w b (A.flatMap rwC)) => sameRows_any a b A.length c d A w rfl (by omega) (htt ▸ vals_pre (k := kn) h1) h2
        clear hla hlb htt hll
        go_upto_region 9 with (first | (go_at_call 44; (with_reducible apply Calls.mono (HG _ (Own.immOf (φ := TrArg ra rows) hO pk_)); rintro e8 w8 ⟨rfl, hx8⟩; replace hO := hO.ext hx8; clear hx8; dsimp only; ((try clear hf); have hf := fa_ hO))) | (go_at_call 45; (with_reducible apply Calls.mono (HSP _ _ (hO.factOf (r := Var _ [.string lo, .string hi] 49) pk_)); rintro e8 w8 ⟨rfl, rfl⟩; dsimp only)) | (go_at_call 17; (replace hO := (hO.pick (r := .imm (TrArg ra rows)) pk_).again.imp (ψ := fun w => ValsAt w ra (rows.flatMap rwC)) (fun _ h => h.2)); (go_at_call 17; (with_reducible apply Does.use hO (HN); (focus exact tk_); clear hO; intro x9 w9 hO; dsimp only at hO ⊢; simp only [CA] at hO; ((try clear hf); have hf := fa_ hO); rename Nat => p1))) | (go_at_call 16; (with_reducible apply Does.use hO (HVN _ _); (focus exact tk_); clear hO; intro x9 w9 hO; dsimp only at hO ⊢; simp only [CA] at hO; ((try clear hf); have hf := fa_ hO); rename Nat => q1)) | (go_at_call 23; (with_reducible apply Does.use hO (HS1 _ _); (focus exact tk_); clear hO; intro x9 w9 hO; dsimp only at hO ⊢; simp only [CA] at hO; ((try clear hf); have hf := fa_ hO); (obtain ⟨aa, ac⟩ := x9; dsimp only at hO ⊢; ((try clear hf); have hf := fa_ hO)))) | ((refine sy_ hO ?_); clear hO; intro w9 hO; (try dsimp only [List.set] at hO); ((try clear hf); have hf := fa_ hO)))
        all_goals try (exfalso; omega; done)
        go_upto_region 11 with (first | (go_at_call 17; (replace hO := (hO.pick (r := .imm (TrArg ra rows)) pk_).again.imp (ψ := fun w => ValsAt w ra (rows.flatMap rwC)) (fun _ h => h.2)); (go_at_call 17; (with_reducible apply Does.use hO (HN); (focus exact tk_); clear hO; intro x9 w9 hO; dsimp only at hO ⊢; simp only [CA] at hO; ((try clear hf); have hf := fa_ hO); rename Nat => p2))) | (go_at_call 16; (with_reducible apply Does.use hO (HVN _ _); (focus exact tk_); clear hO; intro x9 w9 hO; dsimp only at hO ⊢; simp only [CA] at hO; ((try clear hf); have hf := fa_ hO); rename Nat => q2)) | (go_at_call 23; (with_reducible apply Does.use hO (HS2 _ _); (focus exact tk_); clear hO; intro x9 w9 hO; dsimp only at hO ⊢; simp only [CA] at hO; ((try clear hf); have hf := fa_ hO); (obtain ⟨ba, bc⟩ := x9; dsimp only at hO ⊢; ((try clear hf); have hf := fa_ hO)))) | ((refine sy_ hO ?_); clear hO; intro w9 hO; (try dsimp only [List.set] at hO); ((try clear hf); have hf := fa_ hO)))
        have hbc := (hO.rowLen (e := 80) (size := 2) (a := ba) (n := B.length) (cap := bc) (xs := B.flatMap rwC) pk_).2.1
        replace hO := (hO.pick (r := Row2 80 2 aa A.length ac (A.flatMap rwC)) pk_).rowIm (.here _ _)
        replace hO := (hO.pick (r := Row2 80 2 ba B.length bc (B.flatMap rwC)) pk_).rowIm (.here _ _)
        generalize hAl : A.length = la at *
        have HAL := Lib.hid hAl
        clear hAl
        generalize B.length = lb at *
        clear HN0 HS0 HR0 HANY0 HS1 HS2 HN HVN
        ((try clear hf); have hf := fa_ hO)
        go_wp2_with (first | (go_at_call 25; (with_reducible apply Calls.mono (HSA _ _ _ _ _ (Own.immOf (φ := fun w => ValsAt w ba (B.flatMap rwC)) hO pk_) (Own.immOf (φ := fun w => ValsAt w aa (A.flatMap rwC)) hO pk_)); rintro e8 w8 ⟨rfl, hx8⟩; replace hO := hO.ext hx8; clear hx8; dsimp only; ((try clear hf); have hf := fa_ hO))) | ((refine sy_ hO ?_); clear hO; intro w9 hO; (try dsimp only [List.set] at hO); ((try clear hf); have hf := fa_ hO)))
        all_goals try (exfalso; omega; done)
        clear HSA
        have HRD := fun q => vReads_does q p1 0 [] [s1] (by simp)
        simp only [List.length_singleton, show ∀ s : Sp, [s].flatMap spC = [.string s.lo, .string s.hi] from fun _ => rfl] at HRD
        subst hrl
        have hO9 := hO.cut (l' := [.imm (TrArg ra rows), .imm (fun w => ValsAt w aa (A.flatMap rwC)), ViewR q1 p1 0 [] [s1]]) sb_
        clear hO hf
        go_loopw [17] (fun v wr => ∃ i : Nat, v = .int .i64 i ∧ i ≤ rows.length ∧ Own (fun _ => False) W wr [.imm (TrArg ra rows), .imm (fun w => ValsAt w aa (A.flatMap rwC)), ViewR q1 p1 0 [] [s1]]) (fun v _ => rows.length - (intOf v).toNat)
        case atStart => exact ⟨0, rfl, by omega, hO9⟩
        case round =>
          clear hO9
          obtain ⟨i, rfl, hi, hO⟩ := hrel
          rename World => w1
          ((try clear hf); have hf := fa_ hO)
          by_cases hlt : i < rows.length
          · obtain ⟨b, off, rfl⟩ := rw_some (a := ra) (Own.immOf (φ := TrArg ra rows) hO pk_).2 hlt
            have hcy := fun w (h : TrArg (some ⟨b, off, none⟩) rows w) => rw_cells h.2 hlt
            have hT := HRT.out _ (List.getElem_mem hlt)
            have HAN : ∀ (a : Option Addr) (c : Nat) (w : World), ValsAt w a [.string s1.lo, .string s1.hi] → Calls Tryz.prog 43 #[.slice a 1 c, .string rows[i].key] w fun e w' => e = .returned (.bool (toldR A rows[i])) ∧ Ext w w' := fun a c w h => by
              have h2 := any_any a c [s1] rows[i].key w (by simp [maxLen]) (spans_at h)
              rw [show [s1].any (fun s => s.has rows[i].key) = toldR A rows[i] from by rw [List.any_cons, hT]; simp] at h2
              exact h2
            clear hT
            generalize rows[i] = r at *
            go_wp2_with (first | ((refine sy_ hO ?_); clear hO; intro w9 hO; (try dsimp only [List.set] at hO); ((try clear hf); have hf := fa_ hO)))
            (refine wp_region_run (fun w8 => Own _ _ w8 [.imm (TrArg (some ⟨b, off, none⟩) rows)]) (fun _ _ h hx => h.ext hx) (hO.cut sb_) ((0, 0) :: (0, 2) :: (0, 3) :: (0, 4) :: (0, 5) :: (2, 6) :: (5, 1) :: (5, 7) :: (0, 8) :: []) (by kernel_rfl) (by kernel_rfl) rfl (fun _ _ d _ _ h => by cases d <;> exact h) ?_; intro w9 hx9; replace hO := hO.ext hx9; clear hx9; ((try clear hf); have hf := fa_ hO); (repeat (first | (apply inRun_p _ rfl rfl rfl; focus (intro w8 K8 hK8; (repeat (first | go_skip | go_guarded | go_step)); exact hK8)) | (apply inRun_s _ rfl rfl rfl; focus (intro w8 hI8 K8 hK8; (try clear hf); have hf := hI8.facts; (try simp only [FZ, Nat.reduceAdd] at hf); obtain ⟨c0, c1⟩ := hcy _ (Own.immOf (φ := TrArg (some ⟨b, off, none⟩) rows) hI8 pk_); (repeat (first | go_skip | go_guarded | go_step)); exact hK8)))))
            (refine inRun_d rfl ?_; intro K8 hK8; (repeat (first | go_skip | go_guarded | go_step)); (go_at_call 42; (with_reducible apply Does.use hO (HRD _); (focus exact tk_); clear hO; intro x9 w9 hO; dsimp only at hO ⊢; simp only [CA] at hO; ((try clear hf); have hf := fa_ hO); (obtain ⟨ya, yc⟩ := x9; dsimp only at hO ⊢; ((try clear hf); have hf := fa_ hO)))); (repeat go_step); refine hK8 _ _ (hO.cut sb_) ?_; clear hK8 K8)
            (refine inRun_d rfl ?_; intro K8 hK8; (repeat (first | go_skip | go_guarded | go_step)); (go_at_call 43; (with_reducible apply Calls.mono (HAN _ _ _ (Own.immOf (φ := fun w => ValsAt w ya [.string s1.lo, .string s1.hi]) hO pk_)); rintro e8 w8 ⟨rfl, hx8⟩; replace hO := hO.ext hx8; clear hx8; dsimp only; ((try clear hf); have hf := fa_ hO))); (repeat go_step); refine hK8 _ _ (hO.cut sb_) ?_; clear hK8 K8)
            (repeat (first | (apply inRun_p _ rfl rfl rfl; focus (intro w8 K8 hK8; (repeat (first | go_skip | go_guarded | go_step)); exact hK8)) | (apply inRun_s _ rfl rfl rfl; focus (intro w8 hI8 K8 hK8; (try clear hf); have hf := hI8.facts; (try simp only [FZ, Nat.reduceAdd] at hf); skip; (repeat (first | go_skip | go_guarded | go_step)); exact hK8))))
            refine inRun_nil ?_
            clear HAN
            have hO9 := hO.cut (l' := [.imm (TrArg (some ⟨b, off, none⟩) rows), .imm (fun w => ValsAt w aa (A.flatMap rwC)), ViewR q1 p1 0 [] [s1]]) sb_
            clear hO hf
            go_wp2
            go_loopw [19, 20] (fun v19 v20 wr => ∃ k : Nat, v19 = .bool (toldR (A.take k) r) ∧ v20 = .int .i64 k ∧ k ≤ la ∧ Own (fun _ => False) W wr [.imm (TrArg (some ⟨b, off, none⟩) rows), .imm (fun w => ValsAt w aa (A.flatMap rwC)), ViewR q1 p1 0 [] [s1]]) (fun _ v _ => la - (intOf v).toNat)
            case atStart => exact ⟨0, rfl, rfl, by omega, hO9⟩
            case round =>
              clear hO9
              obtain ⟨k, rfl, rfl, hk, hO⟩ := hrel
              rename World => w2
              ((try clear hf); have hf := fa_ hO)
              by_cases hlk : k < la
              · have hk2 : k < A.length := by rw [HAL.out]; exact hlk
                obtain ⟨b2, o2, rfl⟩ := rw_some (a := aa) (hO.immOf (φ := fun w => ValsAt w aa (A.flatMap rwC)) pk_) hk2
                have hcz := fun w (h : ValsAt w (some ⟨b2, o2, none⟩) (A.flatMap rwC)) => rw_cells h hk2
                have HT2 := Lib.hid (toldR_step r hk2)
                generalize A[k] = x at *
                cases htk : toldR (A.take k) r with
                | true =>
                  rw [htk, Bool.true_or] at HT2
                  go_wp2_with (first | ((refine sy_ hO ?_); clear hO; intro w9 hO; (try dsimp only [List.set] at hO); ((try clear hf); have hf := fa_ hO)))
                  (refine wp_region_run (fun _ => True) (fun _ _ _ _ => trivial) trivial ((0, 0) :: (0, 1) :: (0, 2) :: (0, 3) :: (0, 4) :: (1, 5) :: (0, 6) :: (0, 7) :: (0, 8) :: (1, 9) :: (0, 10) :: (0, 11) :: (0, 12) :: []) (by kernel_rfl) (by kernel_rfl) rfl (fun _ _ d _ _ h => by cases d <;> exact h) ?_; intro w9 hx9; replace hO := hO.ext hx9; clear hx9; ((try clear hf); have hf := fa_ hO); (repeat (first | (apply inRun_p _ rfl rfl rfl; focus (intro w8 K8 hK8; (repeat (first | go_skip | go_guarded | go_step)); exact hK8)) | (apply inRun_l _ rfl rfl rfl; focus (intro w8 hx8 K8 hK8; have hO := hO.ext hx8; ((try clear hf); have hf := fa_ hO); skip; (repeat (first | go_skip | go_guarded | go_step)); exact hK8)) | (apply inRun_q _ rfl; (focus (intro w8 hx8 K8 hK8; have hO := hO.ext hx8; ((try clear hf); have hf := fa_ hO); (repeat (first | go_skip | go_guarded | go_step | fail)); (first | exact xt_ | exact hK8 _ xt_))); (focus (exact rfl)); intro w8 hx8; replace hO := hO.ext hx8; clear hx8; ((try clear hf); have hf := fa_ hO)))))
                  refine inRun_nil ?_
                  go_wp2_with (first | ((refine sy_ hO ?_); clear hO; intro w9 hO; (try dsimp only [List.set] at hO); ((try clear hf); have hf := fa_ hO)))
                  exact ⟨⟨k + 1, by rw [HT2.out], by go_num, by omega, hO.cut sb_⟩, by simp [intOf]; omega⟩
                | false =>
                  rw [htk, Bool.false_or] at HT2
                  cases hxe : eqR x r with
                  | true =>
                    rw [hxe] at HT2
                    have hxr := eqR_iff.1 hxe
                    subst hxr
                    clear hxe htk
                    obtain ⟨xk, xv⟩ := x
                    dsimp only at hcy hcz
                    go_wp2_with (first | ((refine sy_ hO ?_); clear hO; intro w9 hO; (try dsimp only [List.set] at hO); ((try clear hf); have hf := fa_ hO)))
                    (refine wp_region_run (fun _ => True) (fun _ _ _ _ => trivial) trivial ((0, 0) :: (0, 1) :: (0, 2) :: (0, 3) :: (0, 4) :: (1, 5) :: (0, 6) :: (0, 7) :: (0, 8) :: (1, 9) :: (0, 10) :: (0, 11) :: (0, 12) :: []) (by kernel_rfl) (by kernel_rfl) rfl (fun _ _ d _ _ h => by cases d <;> exact h) ?_; intro w9 hx9; replace hO := hO.ext hx9; clear hx9; ((try clear hf); have hf := fa_ hO); (repeat (first | (apply inRun_p _ rfl rfl rfl; focus (intro w8 K8 hK8; (repeat (first | go_skip | go_guarded | go_step)); exact hK8)) | (apply inRun_l _ rfl rfl rfl; focus (intro w8 hx8 K8 hK8; have hO := hO.ext hx8; ((try clear hf); have hf := fa_ hO); (obtain ⟨c0, c1⟩ := hcy _ (Own.immOf (φ := TrArg (some ⟨b, off, none⟩) rows) hO pk_); obtain ⟨d0, d1⟩ := hcz _ (Own.immOf (φ := fun w => ValsAt w (some ⟨b2, o2, none⟩) (A.flatMap rwC)) hO pk_)); (repeat (first | go_skip | go_guarded | go_step)); exact hK8)) | (apply inRun_q _ rfl; (focus (intro w8 hx8 K8 hK8; have hO := hO.ext hx8; ((try clear hf); have hf := fa_ hO); (repeat (first | go_skip | go_guarded | go_step | fail)); (first | exact xt_ | exact hK8 _ xt_))); (focus (exact rfl)); intro w8 hx8; replace hO := hO.ext hx8; clear hx8; ((try clear hf); have hf := fa_ hO)))))
                    refine inRun_nil ?_
                    go_wp2_with (first | ((refine sy_ hO ?_); clear hO; intro w9 hO; (try dsimp only [List.set] at hO); ((try clear hf); have hf := fa_ hO)))
                    exact ⟨⟨k + 1, by rw [HT2.out], by go_num, by omega, hO.cut sb_⟩, by simp [intOf]; omega⟩
                  | false =>
                    rw [hxe] at HT2
                    have hne : ¬ x = r := fun h => by rw [eqR_iff.2 h] at hxe; cases hxe
                    clear hxe htk
                    obtain ⟨xk, xv⟩ := x
                    obtain ⟨rk, rv⟩ := r
                    dsimp only at hcy hcz
                    by_cases h1 : xk = rk
                    · subst h1
                      have h2 : ¬ rv.toList = xv.toList := fun h => hne (by rw [toList_inj h])
                      have h3 : ¬ xv.toList = rv.toList := fun h => h2 h.symm
                      have h4 : (rv.toList == xv.toList) = false := by simpa using h2
                      have h6 : (xv.toList == rv.toList) = false := by simpa using h3
                      have h5 : ¬ rv = xv := fun h => h2 (by rw [h])
                      clear hne
                      go_wp2_with (first | ((refine sy_ hO ?_); clear hO; intro w9 hO; (try dsimp only [List.set] at hO); ((try clear hf); have hf := fa_ hO)))
                      (refine wp_region_run (fun _ => True) (fun _ _ _ _ => trivial) trivial ((0, 0) :: (0, 1) :: (0, 2) :: (0, 3) :: (0, 4) :: (1, 5) :: (0, 6) :: (0, 7) :: (0, 8) :: (1, 9) :: (0, 10) :: (0, 11) :: (0, 12) :: []) (by kernel_rfl) (by kernel_rfl) rfl (fun _ _ d _ _ h => by cases d <;> exact h) ?_; intro w9 hx9; replace hO := hO.ext hx9; clear hx9; ((try clear hf); have hf := fa_ hO); (repeat (first | (apply inRun_p _ rfl rfl rfl; focus (intro w8 K8 hK8; (repeat (first | go_skip | go_guarded | go_step)); exact hK8)) | (apply inRun_l _ rfl rfl rfl; focus (intro w8 hx8 K8 hK8; have hO := hO.ext hx8; ((try clear hf); have hf := fa_ hO); (obtain ⟨c0, c1⟩ := hcy _ (Own.immOf (φ := TrArg (some ⟨b, off, none⟩) rows) hO pk_); obtain ⟨d0, d1⟩ := hcz _ (Own.immOf (φ := fun w => ValsAt w (some ⟨b2, o2, none⟩) (A.flatMap rwC)) hO pk_)); (repeat (first | go_skip | go_guarded | go_step)); exact hK8)) | (apply inRun_q _ rfl; (focus (intro w8 hx8 K8 hK8; have hO := hO.ext hx8; ((try clear hf); have hf := fa_ hO); (repeat (first | go_skip | go_guarded | go_step | fail)); (first | exact xt_ | exact hK8 _ xt_))); (focus (exact rfl)); intro w8 hx8; replace hO := hO.ext hx8; clear hx8; ((try clear hf); have hf := fa_ hO)))))
                      refine inRun_nil ?_
                      go_wp2_with (first | ((refine sy_ hO ?_); clear hO; intro w9 hO; (try dsimp only [List.set] at hO); ((try clear hf); have hf := fa_ hO)))
                      exact ⟨⟨k + 1, by rw [HT2.out], by go_num, by omega, hO.cut sb_⟩, by simp [intOf]; omega⟩
                    · have h2 : ¬ rk.toList = xk.toList := fun h => h1 (toList_inj h).symm
                      have h3 : ¬ xk.toList = rk.toList := fun h => h2 h.symm
                      have h4 : (rk.toList == xk.toList) = false := by simpa using h2
                      have h6 : (xk.toList == rk.toList) = false := by simpa using h3
                      have h5 : ¬ rk = xk := fun h => h2 (by rw [h])
                      clear hne
                      go_wp2_with (first | ((refine sy_ hO ?_); clear hO; intro w9 hO; (try dsimp only [List.set] at hO); ((try clear hf); have hf := fa_ hO)))
                      (refine wp_region_run (fun _ => True) (fun _ _ _ _ => trivial) trivial ((0, 0) :: (0, 1) :: (0, 2) :: (0, 3) :: (0, 4) :: (1, 5) :: (0, 6) :: (0, 7) :: (0, 8) :: (1, 9) :: (0, 10) :: (0, 11) :: (0, 12) :: []) (by kernel_rfl) (by kernel_rfl) rfl (fun _ _ d _ _ h => by cases d <;> exact h) ?_; intro w9 hx9; replace hO := hO.ext hx9; clear hx9; ((try clear hf); have hf := fa_ hO); (repeat (first | (apply inRun_p _ rfl rfl rfl; focus (intro w8 K8 hK8; (repeat (first | go_skip | go_guarded | go_step)); exact hK8)) | (apply inRun_l _ rfl rfl rfl; focus (intro w8 hx8 K8 hK8; have hO := hO.ext hx8; ((try clear hf); have hf := fa_ hO); (obtain ⟨c0, c1⟩ := hcy _ (Own.immOf (φ := TrArg (some ⟨b, off, none⟩) rows) hO pk_); obtain ⟨d0, d1⟩ := hcz _ (Own.immOf (φ := fun w => ValsAt w (some ⟨b2, o2, none⟩) (A.flatMap rwC)) hO pk_)); (repeat (first | go_skip | go_guarded | go_step)); exact hK8)) | (apply inRun_q _ rfl; (focus (intro w8 hx8 K8 hK8; have hO := hO.ext hx8; ((try clear hf); have hf := fa_ hO); (repeat (first | go_skip | go_guarded | go_step | fail)); (first | exact xt_ | exact hK8 _ xt_))); (focus (exact rfl)); intro w8 hx8; replace hO := hO.ext hx8; clear hx8; ((try clear hf); have hf := fa_ hO)))))
                      refine inRun_nil ?_
                      go_wp2_with (first | ((refine sy_ hO ?_); clear hO; intro w9 hO; (try dsimp only [List.set] at hO); ((try clear hf); have hf := fa_ hO)))
                      exact ⟨⟨k + 1, by rw [HT2.out], by go_num, by omega, hO.cut sb_⟩, by simp [intOf]; omega⟩
              · have e1 : toldR (A.take k) r = toldR A r := by rw [List.take_of_length_le (by rw [HAL.out]; omega)]
                rw [e1]
                clear e1
                generalize toldR A r = tt at *
                go_wp2_with (first | ((refine sy_ hO ?_); clear hO; intro w9 hO; (try dsimp only [List.set] at hO); ((try clear hf); have hf := fa_ hO)))
                all_goals try (exfalso; simp_all; done)
                exact ⟨⟨i + 1, by go_num, by omega, hO.cut sb_⟩, by simp [intOf]; omega⟩
          · go_wp2_with (first | ((refine sy_ hO ?_); clear hO; intro w9 hO; (try dsimp only [List.set] at hO); ((try clear hf); have hf := fa_ hO)))
            · go_ret
              exact ⟨rfl, hO.toExt⟩
            · go_ret
              refine ⟨ret_bool ?_, hO.toExt⟩
              rcases HEQ.out with h | h <;> simp [h]
      · clear HN0 HVN HS0 HR0 HANY0
        go_wp2_with (first | (go_at_call 44; (with_reducible apply Calls.mono (HG _ (Own.immOf (φ := TrArg ra rows) hO pk_)); rintro e8 w8 ⟨rfl, hx8⟩; replace hO := hO.ext hx8; clear hx8; dsimp only; ((try clear hf); have hf := fa_ hO))) | (go_at_call 45; (with_reducible apply Calls.mono (HSP _ _ (hO.factOf (r := Var _ [.string lo, .string hi] 49) pk_)); rintro e8 w8 ⟨rfl, rfl⟩; dsimp only)) | ((refine sy_ hO ?_); clear hO; intro w9 hO; (try dsimp only [List.set] at hO); ((try clear hf); have hf := fa_ hO)))
        all_goals try (exfalso; omega; done)
        all_goals (go_ret; exact ⟨rfl, hO.toExt⟩)
end Go.Proofs.YtmknhibaoopjjaaGreatDoor
