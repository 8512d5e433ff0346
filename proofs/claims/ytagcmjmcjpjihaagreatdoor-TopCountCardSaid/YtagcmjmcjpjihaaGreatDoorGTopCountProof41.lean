/- Texts En3, En4, En5, En6, Works of this claim, laid together. -/
import Derived.Test.YtagcmjmcjpjihaaGreatDoorGTopCountProof38
import Derived.Test.YtagcmjmcjpjihaaGreatDoorGTopCountProof40
import Derived.Test.YtagcmjmcjpjihaaGreatDoorGTopCountProof31
set_option linter.unusedVariables false
set_option linter.unusedSimpArgs false
set_option linter.unnecessarySimpa false
namespace Go.Proofs.YtagcmjmcjpjihaaGreatDoor
open Go.RowKit Go.Lib
end Go.Proofs.YtagcmjmcjpjihaaGreatDoor
namespace Go.Proofs.YtagcmjmcjpjihaaGreatDoor
open Go.RowKit Go.Lib
/-- What is in hand behind it: if the disk fell, the disk alone. -/
def comT (e p m k : Nat) (c : Core) (D : Nat → Option (Nat × Dv)) : List Rs := if k = 10 then [DiskR p c.d, .imm LibOk] else [EngR e p m c D, DiskR p c.d, .imm LibOk]
theorem CC (c : Core) (C : List Ch) (d : Dk) (h : Hd) (R0 : List Rw) (W0 : List (List Ch)) (u s : Nat) : (c.com C d h R0 W0 u s).nn = c.nn + 1 ∧ (c.com C d h R0 W0 u s).V = commitV c.nn C c.V ∧ (c.com C d h R0 W0 u s).h = h ∧ (c.com C d h R0 W0 u s).u = u ∧ (c.com C d h R0 W0 u s).d = d := ⟨rfl, rfl, rfl, rfl, rfl⟩
theorem CoreOk.comAt {m B : Nat} {c : Core} (H : CoreOk m B c) (C : List Ch) (d : Dk) (h : Hd) (R0 : List Rw) (W0 : List (List Ch)) (u s : Nat) : (c.com C d h R0 W0 u s).at (c.nn + 1) = C.foldl appR (c.at c.nn) := by
  have hl := H.ps.len
  unfold Core.at
  show ((c.past ++ [C.foldl appR (c.at c.nn)])[c.nn + 1]?).getD [] = _
  rw [List.getElem?_append_right (by omega), hl, Nat.sub_self]
  rfl
theorem comT_on {e p m k : Nat} {c : Core} {D : Nat → Option (Nat × Dv)} (h : k ≠ 10) : comT e p m k c D = [EngR e p m c D, DiskR p c.d, .imm LibOk] := if_neg h
theorem comT_off {e p m : Nat} {c : Core} {D : Nat → Option (Nat × Dv)} : comT e p m 10 c D = [DiskR p c.d, .imm LibOk] := if_pos rfl
set_option maxHeartbeats 8000000 in
set_option maxRecDepth 100000 in
theorem ecommit_does (e p m B : Nat) (c : Core) (D : Nat → Option (Nat × Dv)) (H : CoreOk m B c) (hB : B + 1 ≤ 1000) (i : Nat) (hi : i < 4) (x : Nat × Dv) (hD : D i = some x) (hx : DeedOk c x.2) :
    Does Tryz.prog 22 #[.pointer (some ⟨e, 0, none⟩), .int .i64 (i : Int)] [EngR e p m c D, DiskR p c.d, .imm LibOk]
      (fun y : ComX m B c D i x.2 => (.tuple #[.int .i64 (y.n : Int), errV y.k], comT e p m y.k y.c' y.D')) := by
  have HDE := edeed_ok e p m c D i hi x hD
  have HCH := fun va => vChanges_does x.1 va x.2.since x.2.C x.2.R (by have := hx.q.c12; omega)
  have HRD := fun va => vReads_does x.1 va x.2.since x.2.C x.2.R (by have := hx.q.r40; omega)
  have HSI := fun va => vSince_reads x.1 va x.2.since x.2.C x.2.R
  have HCL : ∀ ha ra rc, Reads Tryz.prog 69 #[.pointer (some ⟨ha, 0, none⟩), .slice ra x.2.R.length rc, .int .i64 (x.2.since : Int)] [HistR ha c.st, .imm fun w => SpansAt w ra x.2.R] (.bool (clearA c.keys x.2.R x.2.since)) := fun ha ra rc => by
    have h1 := clear_reads ha c.st ra rc x.2.R (x.2.since : Int) (by unfold Core.st; rw [histL_len]; have := H.nB; omega) (fun d hd => by
      obtain ⟨n, _, _, rfl⟩ := histL_mem hd
      cases hg : c.keys[n]? with
      | none => exact Nat.zero_le _
      | some ks => have := H.k12 ks (List.mem_of_getElem? hg); show ks.length ≤ _; omega) (by have := hx.q.r40; unfold maxLen; omega)
    rw [show clearOf c.st x.2.R (x.2.since : Int) = clearA c.keys x.2.R x.2.since from clear_is H.kl hx.k hx.le] at h1
    exact h1
  have h12 := hx.q.c12
  have hxl := hx.le
  have hDE : deedN x.2.C = 0 := hx.q.deed
  have hvl : ∀ e ∈ c.V, e.2.length ≤ 100000 := cnt_one (by have := H.vc; have := H.b; omega)
  obtain ⟨s, hs⟩ : ∃ s, Hid (s = sinceA (c.nn + 1) (setF D i none)) := ⟨_, Lib.hid rfl⟩
  have hsn : s ≤ c.nn + 1 := by rw [hs.out]; exact sinceA_le _ _
  obtain ⟨n1, hn1⟩ : ∃ n1, Hid (n1 = c.nn + 1) := ⟨_, Lib.hid rfl⟩
  have HS : ∀ va V sa ha, Does Tryz.prog 75 #[.pointer (some ⟨e, 0, none⟩)] [Var e [sa, .pointer (some ⟨va, 0, none⟩), ha, ptrO (setF D i none 0), ptrO (setF D i none 1), ptrO (setF D i none 2), ptrO (setF D i none 3)] 131, VerR va n1 V, VwO va (setF D i none 0), VwO va (setF D i none 1), VwO va (setF D i none 2), VwO va (setF D i none 3)]
      (fun _ : Unit => (.int .i64 (s : Int), [Var e [sa, .pointer (some ⟨va, 0, none⟩), ha, ptrO (setF D i none 0), ptrO (setF D i none 1), ptrO (setF D i none 2), ptrO (setF D i none 3)] 131, VerR va n1 V, VwO va (setF D i none 0), VwO va (setF D i none 1), VwO va (setF D i none 2), VwO va (setF D i none 3)])) := fun va V sa ha => by
    rw [hs.out, hn1.out]
    exact since_does e va (c.nn + 1) V sa ha (setF D i none 0) (setF D i none 1) (setF D i none 2) (setF D i none 3) (by have := H.nB; omega)
  have hst : c.st.length ≤ 1000 := by unfold Core.st; rw [histL_len]; have := H.nB; omega
  have hnB := H.nB
  have hep := H.ep
  have HX := Lib.hid hx
  have HH := Lib.hid H
  clear hx H
  rcases four4 hi with rfl | rfl | rfl | rfl
  all_goals
    intro S W w L0 hO; simp only [CA] at hO
    (replace hf := fa_ hO)
    go_enter Tryz.func22, Tryz.ntmps22
    go_wp2_with (first | (go_at_call 30; (with_reducible refine Does.use hO (HDE) tk_ (du_ ?_); clear hO; (try clear hf); intro x9 w9 hO hf; (obtain ⟨⟨sa, va, ha, qa, ba⟩, hO⟩ := hO.ofEx; replace hO := hO.unpack; dsimp only at hO; rw [(congrArg (VwO va) hD : VwO va _ = _)] at hO; simp only [VP] at hO; simp only [CA] at hO; (replace hf := fa_ hO)))) | (refine sq_ ?_; clear hO; (try clear hf); intro w9 hO hf))
    all_goals try (exfalso; omega; done)
    specialize HCH va
    specialize HRD va
    specialize HSI va
    specialize HCL ha
    by_cases hC : x.2.C = []
    · have hC0 : x.2.C.length = 0 := by rw [hC]; rfl
      go_wp2_with (first | (go_at_call 61; (with_reducible apply Does.use hO (HCH); (focus exact tk_); refine du_ ?_; clear hO; (try clear hf); intro x9 w9 hO hf; (obtain ⟨ca, cc⟩ := x9; dsimp only at hO ⊢; (replace hf := fa_ hO)))) | (go_at_call 68; (with_reducible apply Reads.use hO (HSI); (focus exact tk_); refine ru_ ?_; clear hO; (try clear hf); intro w9 hO hf)) | (refine sq_ ?_; clear hO; (try clear hf); intro w9 hO hf))
      all_goals try (exfalso; omega; done)
      go_ret2
      refine ⟨⟨x.2.since, 0, c, _, .none hC⟩, rfl, ?_⟩
      replace hO := hO.toPure trivial
      dsimp only
      rw [comT_on (by omega)]
      ((try simp only [CA]); refine Own.toEx (sa, va, ha, qa, ba) (Own.pack ?_); dsimp only; (try simp only [SF, VP]); exact hO.give tk_ kp_)
    · have hC1 : 1 ≤ x.2.C.length := List.length_pos_iff.2 hC
      go_wp2_with (first | (go_at_call 61; (with_reducible apply Does.use hO (HCH); (focus exact tk_); refine du_ ?_; clear hO; (try clear hf); intro x9 w9 hO hf; (obtain ⟨ca, cc⟩ := x9; dsimp only at hO ⊢; (replace hf := fa_ hO)))) | (refine sq_ ?_; clear hO; (try clear hf); intro w9 hO hf))
      all_goals try (exfalso; omega; done)
      (refine wp_region_run (fun w8 => Own _ _ w8 (Var e [.pointer (some ⟨sa, 0, none⟩), .pointer (some ⟨va, 0, none⟩), .pointer (some ⟨ha, 0, none⟩), ptrO (D 0), ptrO (D 1), ptrO (D 2), ptrO (D 3)] 131 :: L0)) (fun _ _ h hx => h.ext hx) (hO.cut sb_) ((0, 0) :: (0, 1) :: (0, 2) :: (2, 3) :: (0, 4) :: (0, 6) :: (5, 5) :: (5, 7) :: (5, 8) :: (0, 9) :: []) (by kernel_rfl) (by kernel_rfl) rfl (fun _ _ d _ _ h => by cases d <;> exact h) ?_; intro w9 hx9; replace hO := hO.ext hx9; clear hx9; (replace hf := fa_ hO); (repeat (first | (apply inRun_p _ rfl rfl rfl; focus (intro w8 K8 hK8; (repeat (first | go_skip | go_guarded | go_step)); exact hK8)) | (apply inRun_s _ rfl rfl rfl; focus (intro w8 hI8 K8 hK8; (try clear hf); have hf := hI8.facts; (try simp only [FZ, Nat.reduceAdd] at hf); skip; (repeat (first | go_skip | go_guarded | go_step)); exact hK8)))))
      (refine inRun_d rfl ?_; intro K8 hK8; (repeat (first | go_skip | go_guarded | go_step)); (go_at_call 70; (with_reducible apply Does.use hO (HRD); (focus exact tk_); refine du_ ?_; clear hO; (try clear hf); intro x9 w9 hO hf; (obtain ⟨ra, rc⟩ := x9; dsimp only at hO ⊢; replace hO := (hO.pick (r := .imm (fun w => ValsAt w ra (x.2.R.flatMap spC))) pk_).imp (ψ := fun w => SpansAt w ra x.2.R) (fun w h => vals_spans h); specialize HCL ra rc; (replace hf := fa_ hO)))); (repeat go_step); refine hK8 _ _ (hO.cut sb_) ?_; clear hK8 K8)
      (refine inRun_d rfl ?_; intro K8 hK8; (repeat (first | go_skip | go_guarded | go_step)); (go_at_call 68; (with_reducible apply Reads.use hO (HSI); (focus exact tk_); refine ru_ ?_; clear hO; (try clear hf); intro w9 hO hf)); (repeat go_step); refine hK8 _ _ (hO.cut sb_) ?_; clear hK8 K8)
      (refine inRun_d rfl ?_; intro K8 hK8; (repeat (first | go_skip | go_guarded | go_step)); (go_at_call 69; (with_reducible apply Reads.use hO (HCL); (focus exact tk_); refine ru_ ?_; clear hO; (try clear hf); intro w9 hO hf)); (repeat go_step); refine hK8 _ _ (hO.cut sb_) ?_; clear hK8 K8)
      (repeat (first | (apply inRun_p _ rfl rfl rfl; focus (intro w8 K8 hK8; (repeat (first | go_skip | go_guarded | go_step)); exact hK8)) | (apply inRun_s _ rfl rfl rfl; focus (intro w8 hI8 K8 hK8; (try clear hf); have hf := hI8.facts; (try simp only [FZ, Nat.reduceAdd] at hf); skip; (repeat (first | go_skip | go_guarded | go_step)); exact hK8))))
      refine inRun_nil ?_
      cases hcl : clearA c.keys x.2.R x.2.since with
      | false =>
        go_wp2_with (first | (refine sq_ ?_; clear hO; (try clear hf); intro w9 hO hf))
        all_goals try (exfalso; omega; done)
        go_ret2
        refine ⟨⟨0, 9, c, _, .late hC hcl⟩, rfl, ?_⟩
        replace hO := hO.toPure trivial
        dsimp only
        rw [comT_on (by omega)]
        ((try simp only [CA]); refine Own.toEx (sa, va, ha, qa, ba) (Own.pack ?_); dsimp only; (try simp only [SF, VP]); exact hO.give tk_ kp_)
      | true =>
        replace hO := ((hO.rowImm (a := ca) (n := x.2.C.length) (c := cc) (xs := chs x.2.C) pk_).again.imp (ψ := fun w => ChangesAt w ca x.2.C) fun w h => ChangesAt.ofCh h).take (rs := [.imm LibOk, .imm (fun w => ValsAt w ca (chs x.2.C))]) tk_
        simp only [List.cons_append, List.nil_append] at hO
        replace hO := hO.and
        have hsz : ∀ c ∈ x.2.C, c.key.size ≤ 100 ∧ c.val.size ≤ 200 := fun y hy => by
          have h1 := HX.out.q.good y hy
          have h2 : ChOk y := chN_zero.1 h1
          have := h2.1.size_le
          have := h2.2.2
          exact ⟨by omega, by omega⟩
        obtain ⟨k, d', h', T, hT, HSC⟩ := scommit_gen sa ba p qa m c.u c.d c.h c.R0 c.W0 HH.out.up (by omega) ca x.2.C.length cc x.2.C rfl (by omega) (fun y hy => by have := hsz y hy; omega) (φ := fun w => LibOk w ∧ ValsAt w ca (chs x.2.C)) (fun _ h => h)
        rw [← HH.out.now] at HSC hT
        have HSZ := Lib.hid hsz
        clear hsz
        rcases hT with ⟨k0, k8, kc, rfl⟩ | ⟨rfl, kc, ⟨R1, W1, U', hr⟩, hep2, hfu, rfl⟩ | ⟨rfl, kc, hne, hdk, hon, rfl⟩
        all_goals
          unfold stT at HSC
          dsimp only at HSC
          simp only [CA] at HSC
        · rw [show errV k = .iface 124 (.int .i64 k) from if_neg k0] at HSC
          (replace hf := fa_ hO)
          go_wp2_with (first | (go_at_call 71; (with_reducible apply Does.use hO (HSC); (focus exact tk_); refine du_ ?_; clear hO; (try clear hf); intro x9 w9 hO hf)) | (refine sq_ ?_; clear hO; (try clear hf); intro w9 hO hf))
          all_goals try (exfalso; omega; done)
          go_ret2
          refine ⟨⟨0, k, c, D, (by rw [kc]; exact .full hC hcl (by rw [← kc]; exact k0) (by rw [← kc]; exact k8))⟩, (by dsimp only; rw [show errV k = .iface 124 (.int .i64 k) from if_neg k0]; rfl), ?_⟩
          replace hO := (hO.pick (r := .imm fun w => LibOk w ∧ ValsAt w ca (chs x.2.C)) pk_).imp (ψ := LibOk) fun _ h => h.1
          replace hO := hO.pick (r := DiskR p c.d) pk_
          dsimp only
          rw [comT_on (by omega)]
          (try simp only [CA])
          refine Own.toEx (sa, va, ha, qa, ba) (Own.pack ?_)
          dsimp only
          rw [(congrArg (VwO va) hD : VwO va _ = _)]
          simp only [VP]
          (try simp only [CA])
          exact hO.cut sb_
        · rw [show errV 0 = .nilIface from rfl] at HSC
          (replace hf := fa_ hO)
          have HVC := vcommit_does va c.nn c.V ca x.2.C.length cc x.2.C rfl (by omega) HSZ.out (by omega) hvl (φ := fun w => LibOk w ∧ ValsAt w ca (chs x.2.C)) (fun _ h => h)
          rw [(com_yes (nn := c.nn) (V := c.V) hDE).1, (com_yes (nn := c.nn) (V := c.V) hDE).2.1, hDE, show errV 0 = .nilIface from rfl, ← hn1.out] at HVC
          have HNO := note_does ha c.st ((n1 : Nat) : Int) ca cc x.2.C (by omega) (by omega)
          have HFO := forget_does ha (c.st ++ [((n1 : Int), keysOf x.2.C)]) (s : Int) (by rw [List.length_append]; simp; omega)
          have hhi : (c.st ++ [((n1 : Int), keysOf x.2.C)]).filter (fun y => decide (y.1 > (s : Int))) = (c.com x.2.C d' h' R1 W1 (usedC c.u x.2.C.length m) s).st := by rw [hn1.out]; exact HH.out.hist x.2.C d' h' R1 W1 (usedC c.u x.2.C.length m) s
          rw [hhi] at HFO
          clear hhi
          have hco := HH.out.com (s := s) HX.out.q U' hr hep2 hsn hB
          have HCO := Lib.hid hco
          clear hco
          specialize HS va (commitV c.nn x.2.C c.V) (.pointer (some ⟨sa, 0, none⟩)) (.pointer (some ⟨ha, 0, none⟩))
          simp only [SF, VP] at HS
          go_wp2_with (first | (go_at_call 71; (with_reducible apply Does.use hO (HSC); (focus exact tk_); refine du_ ?_; clear hO; (try clear hf); intro x9 w9 hO hf; (obtain ⟨q3, b3⟩ := x9; dsimp only at hO ⊢; (replace hf := fa_ hO)))) | (go_at_call 72; (with_reducible apply Does.use hO (HVC); (focus exact tk_); refine du_ ?_; clear hO; (try clear hf); intro x9 w9 hO hf)) | (go_at_call 73; (with_reducible apply Does.use hO (HNO); (focus exact tk_); refine du_ ?_; clear hO; (try clear hf); intro x9 w9 hO hf)) | (refine sq_ ?_; clear hO; (try clear hf); intro w9 hO hf))
          all_goals try (exfalso; omega; done)
          replace hO := hO.toPure trivial
          (replace hf := fa_ hO)
          (refine wp_region_run (fun w8 => Own _ _ w8 ((Var e _ 131) :: L0)) (fun _ _ h hx => h.ext hx) (hO.cut sb_) ((0, 0) :: (0, 1) :: (0, 2) :: (2, 3) :: (0, 4) :: (5, 5) :: (5, 6) :: []) (by kernel_rfl) (by kernel_rfl) rfl (fun _ _ d _ _ h => by cases d <;> exact h) ?_)
          intro w9 hx9
          replace hO := hO.ext hx9
          clear hx9
          (replace hf := fa_ hO)
          (repeat (first | (apply inRun_p _ rfl rfl rfl; focus (intro w8 K8 hK8; (repeat (first | go_skip | go_guarded | go_step)); exact hK8)) | (apply inRun_s _ rfl rfl rfl; focus (intro w8 hI8 K8 hK8; (try clear hf); have hf := hI8.facts; (try simp only [FZ, Nat.reduceAdd] at hf); skip; (repeat (first | go_skip | go_guarded | go_step)); exact hK8))))
          (refine inRun_d rfl ?_; intro K8 hK8; (repeat (first | go_skip | go_guarded | go_step)); (go_at_call 75; (with_reducible apply Does.use hO (HS); (focus exact tk_); refine du_ ?_; clear hO; (try clear hf); intro x9 w9 hO hf)); (repeat go_step); refine hK8 _ _ (hO.cut sb_) ?_; clear hK8 K8)
          (refine inRun_d rfl ?_; intro K8 hK8; (repeat (first | go_skip | go_guarded | go_step)); (go_at_call 74; (with_reducible apply Does.use hO (HFO); (focus exact tk_); refine du_ ?_; clear hO; (try clear hf); intro x9 w9 hO hf)); (repeat go_step); refine hK8 _ _ (hO.cut sb_) ?_; clear hK8 K8)
          refine inRun_nil ?_
          go_wp2_with (first | (refine sq_ ?_; clear hO; (try clear hf); intro w9 hO hf))
          go_ret2
          have e1 := hn1.out
          subst e1
          refine ⟨⟨c.nn + 1, 0, c.com x.2.C d' h' R1 W1 (usedC c.u x.2.C.length m) s, _, (by have h9 := HCO.out; rw [hs.out] at h9 ⊢; exact .done d' h' R1 W1 _ hC hcl kc h9 hfu)⟩, rfl, ?_⟩
          replace hO := (hO.pick (r := .imm fun w => LibOk w ∧ ValsAt w ca (chs x.2.C)) pk_).imp (ψ := LibOk) fun _ h => h.1
          replace hO := hO.pick (r := DiskR p d') pk_
          dsimp only
          rw [comT_on (by omega)]
          (try simp only [CA])
          refine Own.toEx (sa, va, ha, q3, b3) (Own.pack ?_)
          dsimp only
          simp only [SF, VP, CC, HH.out.comAt]
          (try simp only [CA])
          exact hO.cut sb_
        · rw [show errV 10 = .iface 124 (.int .i64 10) from rfl] at HSC
          (replace hf := fa_ hO)
          go_wp2_with (first | (go_at_call 71; (with_reducible apply Does.use hO (HSC); (focus exact tk_); refine du_ ?_; clear hO; (try clear hf); intro x9 w9 hO hf)) | (refine sq_ ?_; clear hO; (try clear hf); intro w9 hO hf))
          all_goals try (exfalso; omega; done)
          go_ret2
          refine ⟨⟨0, 10, { c with d := d' }, D, .down _ hC hcl kc hne hdk hon⟩, rfl, ?_⟩
          replace hO := (hO.pick (r := .imm fun w => LibOk w ∧ ValsAt w ca (chs x.2.C)) pk_).imp (ψ := LibOk) fun _ h => h.1
          dsimp only
          rw [comT_off]
          (try simp only [CA])
          exact hO.cut sb_
end Go.Proofs.YtagcmjmcjpjihaaGreatDoor
namespace Go.Proofs.YtagcmjmcjpjihaaGreatDoor
open Go.RowKit Go.Lib
/-- The views but for one. -/
def VwX (v : Nat) (D : Nat → Option (Nat × Dv)) (i j : Nat) : Rs := if j = i then .pure True else VwO v (D j)
theorem VX : (∀ v D, VwX v D 0 0 = .pure True) ∧ (∀ v D, VwX v D 0 1 = VwO v (D 1)) ∧ (∀ v D, VwX v D 0 2 = VwO v (D 2)) ∧ (∀ v D, VwX v D 0 3 = VwO v (D 3)) ∧
    (∀ v D, VwX v D 1 0 = VwO v (D 0)) ∧ (∀ v D, VwX v D 1 1 = .pure True) ∧ (∀ v D, VwX v D 1 2 = VwO v (D 2)) ∧ (∀ v D, VwX v D 1 3 = VwO v (D 3)) ∧
    (∀ v D, VwX v D 2 0 = VwO v (D 0)) ∧ (∀ v D, VwX v D 2 1 = VwO v (D 1)) ∧ (∀ v D, VwX v D 2 2 = .pure True) ∧ (∀ v D, VwX v D 2 3 = VwO v (D 3)) ∧
    (∀ v D, VwX v D 3 0 = VwO v (D 0)) ∧ (∀ v D, VwX v D 3 1 = VwO v (D 1)) ∧ (∀ v D, VwX v D 3 2 = VwO v (D 2)) ∧ (∀ v D, VwX v D 3 3 = .pure True) :=
  ⟨fun _ _ => rfl, fun _ _ => rfl, fun _ _ => rfl, fun _ _ => rfl, fun _ _ => rfl, fun _ _ => rfl, fun _ _ => rfl, fun _ _ => rfl, fun _ _ => rfl, fun _ _ => rfl, fun _ _ => rfl, fun _ _ => rfl, fun _ _ => rfl, fun _ _ => rfl, fun _ _ => rfl, fun _ _ => rfl⟩
/-- An engine, but for its versions (v) and one deed's view. -/
def EngX (e p m : Nat) (c : Core) (D : Nat → Option (Nat × Dv)) (v i : Nat) : Rs := .ex fun x : Nat × Nat × Nat × Nat => .many
  [Var e [.pointer (some ⟨x.1, 0, none⟩), .pointer (some ⟨v, 0, none⟩), .pointer (some ⟨x.2.1, 0, none⟩), ptrO (D 0), ptrO (D 1), ptrO (D 2), ptrO (D 3)] 131,
   HistR x.2.1 c.st, VwX v D i 0, VwX v D i 1, VwX v D i 2, VwX v D i 3,
   Var x.1 (stC p c.h.ep c.h.si c.h.sz c.h.fi x.2.2.1 x.2.2.2) 233,
   Var x.2.2.1 [.pointer (some ⟨p, 0, none⟩), .int .i64 ((50 : Nat) : Int), .int .i64 (m : Int), .int .i64 (c.h.fi : Int), .int .i64 (c.u : Int)] 295, StM x.2.2.2 (c.at c.nn)]
theorem eng_open {S : Nat → Prop} {W w : World} {L : List Rs} {e p m : Nat} {c : Core} {D : Nat → Option (Nat × Dv)} {i : Nat} (hi : i < 4) {x : Nat × Dv} (hD : D i = some x) (h : Own S W w (EngR e p m c D :: L)) :
    ∃ v, Own S W w (EngX e p m c D v i :: ViewR x.1 v x.2.since x.2.C x.2.R :: VerR v c.nn c.V :: L) := by
  obtain ⟨⟨sa, va, ha, qa, ba⟩, hO⟩ := h.ofEx
  replace hO := hO.unpack
  dsimp only at hO
  refine ⟨va, ?_⟩
  rcases four4 hi with rfl | rfl | rfl | rfl
  all_goals
    rw [(congrArg (VwO va) hD : VwO va _ = _)] at hO
    simp only [CA, VP] at hO
    replace hO := hO.toPure trivial
    refine Own.toEx (sa, ha, qa, ba) (Own.pack ?_)
    dsimp only
    simp only [VX, CA]
    exact hO.cut sb_
theorem eng_shut {S : Nat → Prop} {W w : World} {L : List Rs} {e p m : Nat} {c : Core} {D : Nat → Option (Nat × Dv)} {i : Nat} (hi : i < 4) {x : Nat × Dv} (hD : D i = some x) {v : Nat} {C : List Ch} {R : List Sp}
    (h : Own S W w (EngX e p m c D v i :: ViewR x.1 v x.2.since C R :: VerR v c.nn c.V :: L)) : Own S W w (EngR e p m c (setF D i (some (x.1, ⟨x.2.since, C, R⟩))) :: L) := by
  obtain ⟨⟨sa, ha, qa, ba⟩, hO⟩ := h.ofEx
  replace hO := hO.unpack
  dsimp only at hO
  rcases four4 hi with rfl | rfl | rfl | rfl
  all_goals
    rw [(congrArg ptrO hD : ptrO _ = _)] at hO
    simp only [CA, VP, VX] at hO
    refine Own.toEx (sa, v, ha, qa, ba) (Own.pack ?_)
    dsimp only
    simp only [SF, VP, CA]
    exact hO.cut sb_
theorem Own.rot {S : Nat → Prop} {W w : World} {a : Rs} {l m : List Rs} (h : Own S W w (a :: (l ++ m))) : Own S W w (l ++ a :: m) := by
  obtain ⟨hc, M, Z, ⟨M1, M2, h1, h2, s1, s2, d⟩, rest⟩ := h
  obtain ⟨N1, N2, k1, k2, t1, t2, e⟩ := h2.append
  exact ⟨hc, M, Z, Stars.join (M2 := fun b => M1 b ∨ N2 b) k1 ⟨M1, N2, h1, k2, fun b h => .inl h, fun b h => .inr h, fun b h1 h2 => d b h1 (t2 b h2)⟩ (fun b h => s2 b (t1 b h)) (fun b h => h.elim (s1 b) fun h => s2 b (t2 b h)) (fun b h h2 => h2.elim (fun h3 => d b h3 (t1 b h)) (e b h)), rest⟩
theorem Own.tor {S : Nat → Prop} {W w : World} {a : Rs} {l m : List Rs} (h : Own S W w (l ++ a :: m)) : Own S W w (a :: (l ++ m)) := by
  obtain ⟨hc, M, Z, h1, rest⟩ := h
  obtain ⟨N1, N2, k1, ⟨M1, M2, h2, h3, s1, s2, d⟩, t1, t2, e⟩ := h1.append
  exact ⟨hc, M, Z, ⟨M1, fun b => N1 b ∨ M2 b, h2, Stars.join k1 h3 (fun b h => .inl h) (fun b h => .inr h) (fun b h1 h2 => e b h1 (s2 b h2)), fun b h => t2 b (s1 b h), fun b h => h.elim (t1 b) fun h => t2 b (s2 b h), fun b h1 h2 => h2.elim (fun h3 => e b h3 (s1 b h1)) (d b h1)⟩, rest⟩
/-- A contract over a deed's view serves over the engine. -/
theorem does_in {P : Program} {f : Nat} {args : Array Value} {e p m : Nat} {c : Core} {D : Nat → Option (Nat × Dv)} {i : Nat} (hi : i < 4) {x : Nat × Dv} (hD : D i = some x) {rs : List Rs} {α : Type} {val : α → Value} {C : α → List Ch} {R : α → List Sp} {out : α → List Rs}
    (h : ∀ v, Does P f args (ViewR x.1 v x.2.since x.2.C x.2.R :: VerR v c.nn c.V :: rs) (fun y => (val y, ViewR x.1 v x.2.since (C y) (R y) :: VerR v c.nn c.V :: out y))) :
    Does P f args (EngR e p m c D :: rs) (fun y => (val y, EngR e p m c (setF D i (some (x.1, ⟨x.2.since, C y, R y⟩))) :: out y)) := by
  intro S W w L0 hO
  obtain ⟨v, hO⟩ := eng_open hi hD hO
  refine (h v S W w _ (Own.rot (l := ViewR x.1 v x.2.since x.2.C x.2.R :: VerR v c.nn c.V :: rs) hO)).mono ?_
  rintro e8 w8 ⟨y, he, h8⟩
  exact ⟨y, he, eng_shut hi hD (Own.tor (l := ViewR x.1 v x.2.since (C y) (R y) :: VerR v c.nn c.V :: out y) h8)⟩
theorem does_in0 {P : Program} {f : Nat} {args : Array Value} {e p m : Nat} {c : Core} {D : Nat → Option (Nat × Dv)} {i : Nat} (hi : i < 4) {x : Nat × Dv} (hD : D i = some x) {rs : List Rs} {α : Type} {val : α → Value} {C : α → List Ch} {R : α → List Sp} {out : α → List Rs}
    (h : ∀ v, Does P f args (ViewR x.1 v x.2.since x.2.C x.2.R :: rs) (fun y => (val y, ViewR x.1 v x.2.since (C y) (R y) :: out y))) :
    Does P f args (EngR e p m c D :: rs) (fun y => (val y, EngR e p m c (setF D i (some (x.1, ⟨x.2.since, C y, R y⟩))) :: out y)) := by
  refine does_in hi hD fun v => ?_
  intro S W w L0 hO
  refine (h v S W w (VerR v c.nn c.V :: L0) ?_).mono ?_
  · exact Own.rot (l := ViewR x.1 v x.2.since x.2.C x.2.R :: rs) (Own.tor (l := [ViewR x.1 v x.2.since x.2.C x.2.R]) hO)
  rintro e8 w8 ⟨y, he, h8⟩
  exact ⟨y, he, Own.rot (l := [ViewR x.1 v x.2.since (C y) (R y)]) (Own.tor (l := ViewR x.1 v x.2.since (C y) (R y) :: out y) h8)⟩
set_option maxHeartbeats 8000000 in
set_option maxRecDepth 100000 in
theorem enew_does (p m : Nat) (d : Dk) (h : Hd) (R0 : List Rw) (W0 : List (List Ch)) (u : Nat) (U : StUp (m + 50) d h R0 W0 u) :
    Does Tryz.prog 29 #[.pointer (some ⟨p, 0, none⟩)] [DiskR p d, .imm LibOk]
      (fun e : Nat => (.tuple #[.pointer (some ⟨e, 0, none⟩), .nilIface], [EngR e p m (Core.new d h R0 W0 u) (fun _ => none), DiskR p d, .imm LibOk])) := by
  have HOP := open_gen p m d h R0 W0 u U
  have hs := U.st.now
  have hl := hs.len
  have HRW := fun sa ba qa => srows_does sa ba (rowsW R0 W0) (by omega) (.pointer (some ⟨p, 0, none⟩)) (.int .i64 (h.ep : Int)) (.int .i64 (h.si : Int)) (.int .i64 (h.sz : Int)) (.int .i64 (h.fi : Int)) (.pointer (some ⟨qa, 0, none⟩))
  have HVN := fun a c => vnew_does a (rowsW R0 W0).length c (rowsW R0 W0) rfl (by omega) hs.ups.keys
  have hat : (Core.new d h R0 W0 u).at 0 = rowsW R0 W0 := rfl
  have hst : (Core.new d h R0 W0 u).st = [] := rfl
  have CN : (Core.new d h R0 W0 u).nn = 0 ∧ (Core.new d h R0 W0 u).V = newV (rowsW R0 W0) ∧ (Core.new d h R0 W0 u).h = h ∧ (Core.new d h R0 W0 u).u = u := ⟨rfl, rfl, rfl, rfl⟩
  generalize rowsW R0 W0 = L at *
  generalize newV L = V at *
  unfold stT at HOP
  dsimp only [stC] at HOP
  intro S W w L0 hO; simp only [CA] at hO
  (replace hf := fa_ hO)
  go_enter Tryz.func29, Tryz.ntmps29
  go_wp2_with (first | (go_at_call 81; (with_reducible refine Does.use hO (HOP) tk_ (du_ ?_); clear hO; (try clear hf); intro x9 w9 hO hf; (obtain ⟨s, q, b⟩ := x9; dsimp only at hO ⊢; (replace hf := fa_ hO)))) | (go_at_call 83; (with_reducible refine Does.use hO (HRW _ _ _) tk_ (du_ ?_); clear hO; (try clear hf); intro x9 w9 hO hf; (obtain ⟨xa, xc⟩ := x9; dsimp only at hO ⊢; replace hO := hO.rowImm (a := xa) (n := L.length) (c := xc) (xs := L.flatMap rwC) pk_; (replace hf := fa_ hO)))) | (go_at_call 82; (with_reducible refine Does.use hO (HVN _ _) tk_ (du_ ?_); clear hO; (try clear hf); intro x9 w9 hO hf; rename Nat => v9)) | (refine sq_ ?_; clear hO; (try clear hf); intro w9 hO hf))
  go_ret2
  obtain ⟨gh, hg9⟩ := (hO.pick (r := Var _ [.slice none 0 0] 148) pk_).named
  (try rw [← hg9])
  rw [← hg9] at hO
  clear hg9
  replace hO := (hO.pick (r := Var gh [.slice none 0 0] 148) pk_).toHist
  replace hO := (((hO.toPure trivial).toPure trivial).toPure trivial).toPure trivial
  refine ⟨_, rfl, ?_⟩
  (try simp only [CA])
  refine Own.toEx (s, v9, gh, q, b) (Own.pack ?_)
  dsimp only [stC]
  simp only [CN, hst, hat, VP, CA]
  exact hO.cut sb_
set_option maxHeartbeats 8000000 in
set_option maxRecDepth 100000 in
theorem started_does (m : Nat) (h1 : 4 ≤ m) (h2 : m ≤ 150) :
    Does Tryz.prog 17 #[.int .i64 ((m : Int) + 50)] [.imm LibOk]
      (fun x : Nat × Nat => (.tuple #[.pointer (some ⟨x.1, 0, none⟩), .pointer (some ⟨x.2, 0, none⟩), .bool true], [EngR x.2 x.1 m (Core.new (newD (m + 50)) newH [] [] 0) (fun _ => none), DiskR x.1 (newD (m + 50)), .imm LibOk])) := by
  have HN := new_does (m + 50) (by omega) (by omega)
  rw [zD_new, show ((m + 50 : Nat) : Int) = (m : Int) + 50 from by omega] at HN
  have HF := fun p => format_does p (m + 50) (by omega) (by omega)
  have HE := fun p => enew_does p m (newD (m + 50)) newH [] [] 0 (StUp.new (by omega) (by omega))
  generalize Core.new (newD (m + 50)) newH [] [] 0 = c at *
  unfold newD at HE ⊢
  generalize newB (m + 50) = B at *
  generalize (m : Int) + 50 = M at *
  intro S W w L0 hO; simp only [CA] at hO
  (replace hf := fa_ hO)
  go_enter Tryz.func17, Tryz.ntmps17
  go_wp2_with (first | (go_at_call 65; (with_reducible refine Does.use hO (HN) tk_ (du_ ?_); clear hO; (try clear hf); intro x9 w9 hO hf; rename Nat => p)) | (go_at_call 66; (with_reducible refine Does.use hO (HF _) tk_ (du_ ?_); clear hO; (try clear hf); intro x9 w9 hO hf)) | (go_at_call 29; (with_reducible refine Does.use hO (HE _) tk_ (du_ ?_); clear hO; (try clear hf); intro x9 w9 hO hf; (rename Nat => e9))) | (refine sq_ ?_; clear hO; (try clear hf); intro w9 hO hf))
  refine bodyPost_ret (results_tmp3 rfl _ _ _) rfl ?_
  refine ⟨(p, e9), rfl, ?_⟩
  dsimp only
  (try simp only [CA])
  exact hO.cut sb_
end Go.Proofs.YtagcmjmcjpjihaaGreatDoor
namespace Go.Proofs.YtagcmjmcjpjihaaGreatDoor
open Go.RowKit Go.Lib
structure ComQ (m B : Nat) (c : Core) (D : Nat → Option (Nat × Dv)) (i : Nat) (x : Dv) where
  n : Nat
  k : Nat
  c' : Core
  D' : Nat → Option (Nat × Dv)
  ok : ComOk m B c D i x n k c' D'
  hk : k ≠ 10
  k9 : k ≤ 9
  f : c'.d.fuse = -1
theorem ComOk.kq {m B : Nat} {c : Core} {D : Nat → Option (Nat × Dv)} {i : Nat} {x : Dv} {n k : Nat} {c' : Core} {D' : Nat → Option (Nat × Dv)} (h : ComOk m B c D i x n k c' D') (hf : c.d.fuse = -1) : k ≤ 9 ∧ c'.d.fuse = -1 := by
  cases h with
  | none h1 => exact ⟨Nat.zero_le _, hf⟩
  | late h1 h2 => exact ⟨Nat.le_refl _, hf⟩
  | full h1 h2 h3 h4 => exact ⟨Nat.le_trans h4 (by omega), hf⟩
  | done d h R0 W0 u h1 h2 h3 h4 h5 => exact ⟨Nat.zero_le _, h5 hf⟩
  | down c' h1 h2 h3 h4 => exact absurd hf h4
theorem ecommit_q (e p m B : Nat) (c : Core) (D : Nat → Option (Nat × Dv)) (H : CoreOk m B c) (hB : B + 1 ≤ 1000) (i : Nat) (hi : i < 4) (x : Nat × Dv) (hD : D i = some x) (hx : DeedOk c x.2) (hf : c.d.fuse = -1) :
    Does Tryz.prog 22 #[.pointer (some ⟨e, 0, none⟩), .int .i64 (i : Int)] [EngR e p m c D, DiskR p c.d, .imm LibOk]
      (fun y : ComQ m B c D i x.2 => (.tuple #[.int .i64 (y.n : Int), errV y.k], [EngR e p m y.c' y.D', DiskR p y.c'.d, .imm LibOk])) :=
  (ecommit_does e p m B c D H hB i hi x hD hx).wit fun y => by
    obtain ⟨h1, h2⟩ := y.ok.kq hf
    refine ⟨⟨y.n, y.k, y.c', y.D', y.ok, by omega, h1, h2⟩, ?_⟩
    dsimp only
    rw [comT_on (by omega)]
section
variable {e p m B : Nat} {c : Core} {D : Nat → Option (Nat × Dv)} {i : Nat} {x : Nat × Dv} {φ : World → Prop}
theorem eput_does (hi : i < 4) (hD : D i = some x) (hx : DeedOk c x.2) (key val : ByteArray) (hk : key.size ≤ 300) (hv : val.size ≤ 1000) (hφ : ∀ w, φ w → LibOk w) :
    Does Tryz.prog 44 #[.pointer (some ⟨x.1, 0, none⟩), .string key, .string val] [EngR e p m c D, .imm φ]
      (fun _ : Unit => (errV (putN x.2.C ⟨key, val, false⟩), [EngR e p m c (setF D i (some (x.1, ⟨x.2.since, putL x.2.C ⟨key, val, false⟩, x.2.R⟩))), .imm φ])) :=
  does_in0 hi hD (rs := [.imm φ]) (val := fun _ => errV _) (C := fun _ => putL x.2.C ⟨key, val, false⟩) (R := fun _ => x.2.R) (out := fun _ => [.imm φ]) fun v =>
    vPut_does x.1 v x.2.since x.2.C x.2.R key val hk hv (by have := hx.q.c12; omega) hx.q.ups hφ
theorem eget_does (H : CoreOk m B c) (hi : i < 4) (hD : D i = some x) (hx : DeedOk c x.2) (key : ByteArray) (hk : key.size ≤ 300) (hφ : ∀ w, φ w → LibOk w) :
    Does Tryz.prog 43 #[.pointer (some ⟨x.1, 0, none⟩), .string key] [EngR e p m c D, .imm φ]
      (fun _ : Unit => (.tuple #[.string (getG (valR (c.at x.2.since) key) x.2.C x.2.R key).1, .bool (getG (valR (c.at x.2.since) key) x.2.C x.2.R key).2.1, errV (getG (valR (c.at x.2.since) key) x.2.C x.2.R key).2.2],
        [EngR e p m c (setF D i (some (x.1, ⟨x.2.since, x.2.C, getB x.2.C x.2.R key⟩))), .imm φ])) :=
  does_in hi hD (rs := [.imm φ]) (val := fun _ => .tuple _) (C := fun _ => x.2.C) (R := fun _ => getB x.2.C x.2.R key) (out := fun _ => [.imm φ]) fun v => by
    have hs := H.sees hx.f hx.le
    have h1 := vget_does x.1 v x.2.since c.nn c.V x.2.C x.2.R key hk (by have := hx.q.c12; omega) hx.q.ups hx.q.r40 hs.v6 hφ
    rw [getA_G, hs.rd] at h1
    exact h1
end
end Go.Proofs.YtagcmjmcjpjihaaGreatDoor
namespace Go.Proofs.YtagcmjmcjpjihaaGreatDoor
open Go.RowKit Go.Lib
theorem CoreOk.start {m : Nat} (h1 : 4 ≤ m) (h2 : m ≤ 150) : CoreOk m 0 (Core.new (newD (m + 50)) newH [] [] 0) := CoreOk.new (StUp.new (by omega) (by omega)) (by decide) (by omega)
theorem start_facts (m : Nat) : (Core.new (newD (m + 50)) newH [] [] 0).nn = 0 ∧ (Core.new (newD (m + 50)) newH [] [] 0).at 0 = [] ∧ (Core.new (newD (m + 50)) newH [] [] 0).d = newD (m + 50) ∧ (Core.new (newD (m + 50)) newH [] [] 0).d.fuse = -1 ∧ (Core.new (newD (m + 50)) newH [] [] 0).keys = [[]] := ⟨rfl, rfl, rfl, rfl, rfl⟩
theorem putA : putN [] cAx = 0 ∧ putL [] cAx = [cAx] := by
  have e : putC [] cAx = [cAx] := rfl
  have h0 : putN [] cAx = 0 := by
    unfold putN
    rw [if_neg (by rw [chN_zero.2 cAx_ok]; simp), if_neg (by rw [e]; show ¬ 12 < 1; omega)]
  exact ⟨h0, by unfold putL; rw [if_pos h0, e]⟩
theorem QInv.cAx : QInv [cAx] [] := ⟨List.pairwise_singleton _ _, by simp, by simp, fun c hc => by rw [List.mem_singleton.1 hc]; exact chN_zero.2 cAx_ok⟩
set_option maxHeartbeats 8000000 in
set_option maxRecDepth 100000 in
theorem works_any (w : World) (h : LibOk w) : Calls Tryz.prog 42 #[] w fun e w' => e = .returned (.bool true) ∧ Ext w w' := by
  have hO := lib_base h
  have HS := started_does 30 (by omega) (by omega)
  rw [show ((30 : Nat) : Int) + 50 = 80 from rfl] at HS
  have H0 := CoreOk.start (m := 30) (by omega) (by omega)
  obtain ⟨f1, f2, f3, f4, f5⟩ := start_facts 30
  obtain ⟨c, hc⟩ : ∃ c, c = Core.new (newD (30 + 50)) newH [] [] 0 := ⟨_, rfl⟩
  rw [← hc] at HS H0 f1 f2 f3 f4 f5
  rw [← f3] at HS
  clear hc f3
  have hc12 : (c.at c.nn) = [] := by rw [f1]; exact f2
  have HB := fun e p => ebegin_ok e p 30 c (fun _ => none) 0 (by omega) rfl
  have HD := fun e p q => edeed_ok e p 30 c (setF (fun _ => none) 0 (some (q, ⟨c.nn, [], []⟩))) 0 (by omega) (q, ⟨c.nn, [], []⟩) rfl
  have HP := fun e p q => eput_does (e := e) (p := p) (m := 30) (c := c) (D := setF (fun _ => none) 0 (some (q, ⟨c.nn, [], []⟩))) (i := 0) (x := (q, ⟨c.nn, [], []⟩)) (φ := LibOk) (by omega) rfl H0.fresh tkA ⟨#[120]⟩ (by decide) (by decide) (fun _ h => h)
  dsimp only at HP
  rw [show (⟨tkA, ⟨#[120]⟩, false⟩ : Ch) = cAx from rfl, putA.1, putA.2] at HP
  rw [show errV 0 = .nilIface from rfl] at HP
  have hdd : DeedOk c ⟨c.nn, [cAx], []⟩ := ⟨H0.ps.le, H0.kn, Nat.le_refl _, QInv.cAx⟩
  have HC := fun e p q => ecommit_q e p 30 0 c (setF (setF (fun _ => none) 0 (some (q, ⟨c.nn, [], []⟩))) 0 (some (q, ⟨c.nn, [cAx], []⟩))) H0 (by omega) 0 (by omega) (q, ⟨c.nn, [cAx], []⟩) rfl hdd f4
  unfold tkA at HP
  simp only [show ((0 : Nat) : Int) = 0 from rfl] at HB
  simp only [show ((0 : Nat) : Int) = 0 from rfl] at HD
  simp only [show ((0 : Nat) : Int) = 0 from rfl] at HC
  have HDD := Lib.hid hdd
  have HH := Lib.hid H0
  clear hdd H0
  (replace hf := fa_ hO)
  go_enter Tryz.func42, Tryz.ntmps42
  go_upto_region 8 with (first | (go_at_call 17; (with_reducible refine Does.use hO (HS) tk_ (du_ ?_); clear hO; (try clear hf); intro x9 w9 hO hf; (obtain ⟨p, e⟩ := x9; dsimp only at hO ⊢; (replace hf := fa_ hO)))) | (go_at_call 20; (with_reducible refine Does.use hO (HB _ _) tk_ (du_ ?_); clear hO; (try clear hf); intro x9 w9 hO hf; rename Nat => q9)) | (go_at_call 30; (with_reducible refine Does.use hO (HD _ _ _) tk_ (du_ ?_); clear hO; (try clear hf); intro x9 w9 hO hf)) | (go_at_call 44; (with_reducible refine Does.use hO (HP _ _ _) tk_ (du_ ?_); clear hO; (try clear hf); intro x9 w9 hO hf)) | (go_at_call 22; (with_reducible refine Does.use hO (HC _ _ _) tk_ (du_ ?_); clear hO; (try clear hf); intro x9 w9 hO hf; (obtain ⟨n, k, c', D', ok, _, _, fz⟩ := x9; dsimp only at hO ⊢; (replace hf := fa_ hO)))) | (refine sq_ ?_; clear hO; (try clear hf); intro w9 hO hf))
  have hcl : clearA c.keys [] c.nn = true := by rw [f5, f1]; rfl
  have hcm : commitN (c.at c.nn) [cAx] 30 = 0 := by
    rw [hc12]; exact commitN_ok (by simp) (faultN_zero.2 fun c hc => by rw [List.mem_singleton.1 hc]; exact cAx_ok) (by rw [first_len]; simp)
  cases ok with
  | none h1 => cases h1
  | late h1 h2 => rw [hcl] at h2; cases h2
  | full h1 h2 h3 h4 => exact absurd hcm h3
  | down c' h1 h2 h3 h4 => exact absurd f4 h4
  | done d h R0 W0 u h1 h2 h3 h4 h5 =>
    obtain ⟨s, hs⟩ : ∃ s, s = sinceA (c.nn + 1) (setF (setF (setF (fun _ => Option.none) 0 (some (q9, ⟨c.nn, [], []⟩))) 0 (some (q9, ⟨c.nn, [cAx], []⟩))) 0 Option.none) := ⟨_, rfl⟩
    rw [← hs] at hO h4
    clear hs
    have hat := HH.out.comAt [cAx] d h R0 W0 u s
    rw [hc12] at hat
    have hn : (c.com [cAx] d h R0 W0 u s).nn = c.nn + 1 := rfl
    have HR := erows_does e p 30 (c.com [cAx] d h R0 W0 u s) (setF (setF (setF (fun _ => Option.none) 0 (some (q9, ⟨c.nn, [], []⟩))) 0 (some (q9, ⟨c.nn, [cAx], []⟩))) 0 Option.none) (by rw [hn, hat, first_len]; omega)
    rw [hn, hat, first_len] at HR
    simp only [f1, show errV 0 = .nilIface from rfl]
    dsimp only at hO
    generalize c.com [cAx] d h R0 W0 u s = c1 at *
    generalize setF (setF (setF (fun _ => Option.none) 0 (some (q9, ⟨c.nn, [], []⟩))) 0 (some (q9, ⟨c.nn, [cAx], []⟩))) 0 Option.none = D1 at *
    (replace hf := fa_ hO)
    go_wp2_with (first | (go_at_call 37; (with_reducible refine Does.use hO (HR) tk_ (du_ ?_); clear hO; (try clear hf); intro x9 w9 hO hf; (obtain ⟨xa, xc⟩ := x9; dsimp only at hO ⊢; (replace hf := fa_ hO)))) | (refine sq_ ?_; clear hO; (try clear hf); intro w9 hO hf))
    all_goals try (exfalso; omega; done)
    go_ret
    exact ⟨rfl, hO.toExt⟩
end Go.Proofs.YtagcmjmcjpjihaaGreatDoor
