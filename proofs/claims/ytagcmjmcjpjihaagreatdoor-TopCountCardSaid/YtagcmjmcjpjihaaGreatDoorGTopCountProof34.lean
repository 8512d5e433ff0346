/- Texts View, View2, View3, View4, ScanL, RView, View6, SlF of this claim, laid together. -/
import Derived.Test.YtagcmjmcjpjihaaGreatDoorGTopCountProof32
import Derived.Test.YtagcmjmcjpjihaaGreatDoorGTopCountProof21
import Derived.Test.YtagcmjmcjpjihaaGreatDoorGTopCountProof28
import Derived.Test.YtagcmjmcjpjihaaGreatDoorGTopCountProof13
import Derived.Test.YtagcmjmcjpjihaaGreatDoorGTopCountProof33
import Derived.Test.YtagcmjmcjpjihaaGreatDoorGTopCountProof5
set_option linter.unusedVariables false
set_option linter.unusedSimpArgs false
namespace Go.Proofs.YtagcmjmcjpjihaaGreatDoor
open Go.RowKit
def spC (s : Sp) : List Value := [.string s.lo, .string s.hi]
def eqS (x s : Sp) : Bool := decide (x.lo = s.lo) && decide (x.hi = s.hi)
def hasS (R : List Sp) (s : Sp) : Bool := R.any fun x => eqS x s
theorem sp_cells {w : World} {l : List Sp} {b off i : Nat} (h : ValsAt w (some ⟨b, off, none⟩) (l.flatMap spC)) (hi : i < l.length) : w.cell? ⟨b, off + i * 2, none⟩ = some (.string l[i].lo) ∧ w.cell? ⟨b, off + i * 2 + 1, none⟩ = some (.string l[i].hi) := by
  have g0 := flat_get spC 2 (fun _ => rfl) l i hi 0 (by omega)
  have g1 := flat_get spC 2 (fun _ => rfl) l i hi 1 (by omega)
  exact ⟨ValsAt.get h g0, by rw [Nat.add_assoc]; exact ValsAt.get h g1⟩
theorem sp_some {w : World} {l : List Sp} {a : Option Addr} {i : Nat} (h : ValsAt w a (l.flatMap spC)) (hi : i < l.length) : ∃ b off, a = some ⟨b, off, none⟩ :=
  ValsAt.some h (flat_get spC 2 (fun _ => rfl) l i hi 0 (by omega))
set_option maxHeartbeats 1000000 in
set_option maxRecDepth 100000 in
theorem indexS_any (a : Option Addr) (n c : Nat) (R : List Sp) (s : Sp) (w : World) (hl : R.length = n) (hn : n ≤ 100000) (hA : ValsAt w a (R.flatMap spC)) :
    Calls Tryz.prog 242 #[.slice a n c, .agg #[.string s.lo, .string s.hi]] w fun e w' => (∃ r : Int, e = .returned (.int .i64 r) ∧ decide (0 ≤ r) = hasS R s) ∧ Ext w w' := by
  have hO : Own (fun _ => False) w w [.imm fun w => ValsAt w a (R.flatMap spC)] := Own.base w _ fun _ hw' => vals_up hA hw'
  obtain ⟨lo, hi⟩ := s
  (replace hf := fa_ hO)
  go_enter Tryz.func242, Tryz.ntmps242
  go_wp2_with (first | (refine sq_ ?_; clear hO; (try clear hf); intro w9 hO hf))
  obtain ⟨g, hg9⟩ := (hO.pick (r := Var _ [.string lo, .string hi] 98) pk_).named
  rw [← hg9]; rw [← hg9] at hO; clear hg9
  have hO9 := hO
  clear hO hf
  go_loopw [8] (fun v wr => ∃ k : Nat, v = .int .i64 k ∧ k ≤ n ∧ Hid (hasS (R.drop k) ⟨lo, hi⟩ = hasS R ⟨lo, hi⟩) ∧ Own (fun _ => False) w wr [Var g [.string lo, .string hi] 98, .imm fun w => ValsAt w a (R.flatMap spC)]) (fun v _ => n - (intOf v).toNat)
  case atStart => exact ⟨0, rfl, by omega, Lib.hid rfl, hO9.cut sb_⟩
  case round =>
    clear hO9
    obtain ⟨k, rfl, hk, HI, hO⟩ := hrel
    rename World => w0
    (replace hf := fa_ hO)
    by_cases hlt : k < n
    · have hk2 : k < R.length := by omega
      obtain ⟨b, off, rfl⟩ := sp_some (Own.immOf (φ := fun w => ValsAt w a (R.flatMap spC)) hO pk_) hk2
      have hcy := fun w (h : ValsAt w (some ⟨b, off, none⟩) (R.flatMap spC)) => sp_cells h hk2
      have hd : hasS (R.drop k) ⟨lo, hi⟩ = (eqS R[k] ⟨lo, hi⟩ || hasS (R.drop (k + 1)) ⟨lo, hi⟩) := by rw [List.drop_eq_getElem_cons hk2]; unfold hasS; rw [List.any_cons]
      have HD := Lib.hid hd
      clear hd
      generalize R[k] = x at *
      obtain ⟨xl, xh⟩ := x
      dsimp only at hcy HD
      by_cases hx : xl = lo ∧ xh = hi
      · obtain ⟨rfl, rfl⟩ := hx
        have e1 := Lib.hid (show hasS R ⟨xl, xh⟩ = true by rw [← HI.out, HD.out]; unfold eqS; simp)
        clear HI HD
        go_wp2_with (first | (refine sq_ ?_; clear hO; (try clear hf); intro w9 hO hf))
        (refine rg_ hO ((1, 0) :: (0, 1) :: (0, 2) :: (0, 3) :: (1, 4) :: (0, 5) :: []) ?_; clear hO; intro w9 hO; replace hf := fa_ hO; (repeat (first | (apply inRun_p _ rfl rfl rfl; focus (intro w8 K8 hK8; (repeat (first | go_skip | go_guarded | go_step)); exact hK8)) | (apply inRun_l _ rfl rfl rfl; focus (intro w8 hx8 K8 hK8; have hO := hO.ext hx8; (replace hf := fa_ hO); obtain ⟨c0, c1⟩ := hcy _ (Own.immOf (φ := fun w => ValsAt w (some ⟨b, off, none⟩) (R.flatMap spC)) hO pk_); (repeat (first | go_skip | go_guarded | go_step)); exact hK8)) | (apply inRun_q _ rfl; (focus (intro w8 hx8 K8 hK8; have hO := hO.ext hx8; (replace hf := fa_ hO); (repeat (first | go_skip | go_guarded | go_step | fail)); (first | exact xt_ | exact hK8 _ xt_))); (focus (exact rfl)); intro w8 hx8; replace hO := hO.ext hx8; clear hx8; (replace hf := fa_ hO)))))
        refine inRun_nil ?_
        go_wp2_with (first | (refine sq_ ?_; clear hO; (try clear hf); intro w9 hO hf))
        all_goals try (exfalso; simp_all; done)
        go_ret
        refine ⟨⟨_, rfl, ?_⟩, hO.toExt⟩
        rw [e1.out]
        exact decide_eq_true (by omega)
      · have e1 := Lib.hid (show hasS (R.drop (k + 1)) ⟨lo, hi⟩ = hasS R ⟨lo, hi⟩ by
          rw [← HI.out, HD.out]
          have : eqS ⟨xl, xh⟩ ⟨lo, hi⟩ = false := by
            unfold eqS
            by_cases h1 : xl = lo
            · have h2 : ¬ xh = hi := fun h2 => hx ⟨h1, h2⟩
              simp [h2]
            · simp [h1]
          rw [this]; rfl)
        clear HI HD
        by_cases h1 : xl = lo
        · subst h1
          have h2 : ¬ hi.toList = xh.toList := fun h => hx ⟨rfl, (toList_inj h).symm⟩
          have h3 : ¬ xh.toList = hi.toList := fun h => h2 h.symm
          have h4 : (hi.toList == xh.toList) = false := by simpa using h2
          have h5 : ¬ hi = xh := fun h => h2 (by rw [h])
          clear hx
          go_wp2_with (first | (refine sq_ ?_; clear hO; (try clear hf); intro w9 hO hf))
          (refine rg_ hO ((1, 0) :: (0, 1) :: (0, 2) :: (0, 3) :: (1, 4) :: (0, 5) :: []) ?_; clear hO; intro w9 hO; replace hf := fa_ hO; (repeat (first | (apply inRun_p _ rfl rfl rfl; focus (intro w8 K8 hK8; (repeat (first | go_skip | go_guarded | go_step)); exact hK8)) | (apply inRun_l _ rfl rfl rfl; focus (intro w8 hx8 K8 hK8; have hO := hO.ext hx8; (replace hf := fa_ hO); obtain ⟨c0, c1⟩ := hcy _ (Own.immOf (φ := fun w => ValsAt w (some ⟨b, off, none⟩) (R.flatMap spC)) hO pk_); (repeat (first | go_skip | go_guarded | go_step)); exact hK8)) | (apply inRun_q _ rfl; (focus (intro w8 hx8 K8 hK8; have hO := hO.ext hx8; (replace hf := fa_ hO); (repeat (first | go_skip | go_guarded | go_step | fail)); (first | exact xt_ | exact hK8 _ xt_))); (focus (exact rfl)); intro w8 hx8; replace hO := hO.ext hx8; clear hx8; (replace hf := fa_ hO)))))
          refine inRun_nil ?_
          go_wp2_with (first | (refine sq_ ?_; clear hO; (try clear hf); intro w9 hO hf))
          exact ⟨⟨k + 1, by go_num, by omega, e1, hO.cut sb_⟩, by simp [intOf]; omega⟩
        · have h2 : ¬ lo.toList = xl.toList := fun h => h1 (toList_inj h).symm
          have h3 : ¬ xl.toList = lo.toList := fun h => h2 h.symm
          have h4 : (lo.toList == xl.toList) = false := by simpa using h2
          have h5 : ¬ lo = xl := fun h => h2 (by rw [h])
          clear hx
          go_wp2_with (first | (refine sq_ ?_; clear hO; (try clear hf); intro w9 hO hf))
          (refine rg_ hO ((1, 0) :: (0, 1) :: (0, 2) :: (0, 3) :: (1, 4) :: (0, 5) :: []) ?_; clear hO; intro w9 hO; replace hf := fa_ hO; (repeat (first | (apply inRun_p _ rfl rfl rfl; focus (intro w8 K8 hK8; (repeat (first | go_skip | go_guarded | go_step)); exact hK8)) | (apply inRun_l _ rfl rfl rfl; focus (intro w8 hx8 K8 hK8; have hO := hO.ext hx8; (replace hf := fa_ hO); obtain ⟨c0, c1⟩ := hcy _ (Own.immOf (φ := fun w => ValsAt w (some ⟨b, off, none⟩) (R.flatMap spC)) hO pk_); (repeat (first | go_skip | go_guarded | go_step)); exact hK8)) | (apply inRun_q _ rfl; (focus (intro w8 hx8 K8 hK8; have hO := hO.ext hx8; (replace hf := fa_ hO); (repeat (first | go_skip | go_guarded | go_step | fail)); (first | exact xt_ | exact hK8 _ xt_))); (focus (exact rfl)); intro w8 hx8; replace hO := hO.ext hx8; clear hx8; (replace hf := fa_ hO)))))
          refine inRun_nil ?_
          go_wp2_with (first | (refine sq_ ?_; clear hO; (try clear hf); intro w9 hO hf))
          exact ⟨⟨k + 1, by go_num, by omega, e1, hO.cut sb_⟩, by simp [intOf]; omega⟩
    · have e1 := HI.out
      rw [List.drop_of_length_le (by omega)] at e1
      have e2 := Lib.hid (e1.symm.trans (show hasS [] ⟨lo, hi⟩ = false from rfl))
      clear e1 HI
      go_wp2_with (first | (refine sq_ ?_; clear hO; (try clear hf); intro w9 hO hf))
      go_ret
      exact ⟨⟨_, rfl, by rw [e2.out]; rfl⟩, hO.toExt⟩
set_option maxHeartbeats 1000000 in
set_option maxRecDepth 100000 in
theorem containsS_any (a : Option Addr) (n c : Nat) (R : List Sp) (s : Sp) (w : World) (hl : R.length = n) (hn : n ≤ 100000) (hA : ValsAt w a (R.flatMap spC)) :
    Calls Tryz.prog 198 #[.slice a n c, .agg #[.string s.lo, .string s.hi]] w fun e w' => e = .returned (.bool (hasS R s)) ∧ Ext w w' := by
  have hO : Own (fun _ => False) w w [.imm fun w => ValsAt w a (R.flatMap spC)] := Own.base w _ fun _ hw' => vals_up hA hw'
  have HI := fun w h => indexS_any a n c R s w hl hn h
  obtain ⟨lo, hi⟩ := s
  dsimp only at HI
  (replace hf := fa_ hO)
  go_enter Tryz.func198, Tryz.ntmps198
  go_wp2_with (first | (go_at_call 242; (with_reducible apply Calls.mono (HI _ (Own.immOf (φ := fun w => ValsAt w a (R.flatMap spC)) hO pk_)); rintro e8 w8 ⟨⟨r, rfl, hr⟩, hx8⟩; replace hO := hO.ext hx8; clear hx8; replace hr := Lib.hid hr; dsimp only; (replace hf := fa_ hO))) | (refine sq_ ?_; clear hO; (try clear hf); intro w9 hO hf))
  go_ret
  rw [← hr.out]
  exact ⟨rfl, hO.toExt⟩
def ViewR (q p since : Nat) (C : List Ch) (R : List Sp) : Rs := .ex fun x : Option Addr × Nat × Option Addr × Nat => .many [Var q [.pointer (some ⟨p, 0, none⟩), .int .i64 since, .slice x.1 C.length x.2.1, .slice x.2.2.1 R.length x.2.2.2] 189, .imm (fun w => ChAt w x.1 C), Row2 98 2 x.2.2.1 R.length x.2.2.2 (R.flatMap spC)]
def noteN (R : List Sp) (s : Sp) : Nat := if hasS R s then 0 else if R.length = 40 then 2 else 0
def noteR (R : List Sp) (s : Sp) : List Sp := if hasS R s then R else if R.length = 40 then R else R ++ [s]
theorem rowV {w : World} {e : TypeId} {size n c : Nat} {a : Option Addr} {xs : List Value} (h : (Row2 e size a n c xs).facts w) : ValsAt w a xs := h.1
theorem Tryz.infoSp : (Tryz.prog.info? 98).map (fun i => (i.zero, i.size, i.bytes)) = some (some (.agg #[.string ⟨#[]⟩, .string ⟨#[]⟩]), 2, 32) := by kernel_rfl
set_option maxHeartbeats 2000000 in
set_option maxRecDepth 100000 in
theorem vnote_does (q p since : Nat) (C : List Ch) (R : List Sp) (s : Sp) (hR : R.length ≤ 40) :
    Does Tryz.prog 113 #[.pointer (some ⟨q, 0, none⟩), .agg #[.string s.lo, .string s.hi]] [ViewR q p since C R] (fun _ : Unit => (errV (noteN R s), [ViewR q p since C (noteR R s)])) := by
  obtain ⟨iS, hiS, hzS, hsS, hbS⟩ := info_parts Tryz.infoSp
  intro S W w L0 hO; simp only [CA] at hO
  obtain ⟨⟨ca, cc, ra, rc⟩, hO⟩ := hO.ofEx; replace hO := hO.unpack; dsimp only at hO; simp only [CA] at hO; (replace hf := fa_ hO)
  have HCT := fun w h => containsS_any ra R.length rc R s w rfl (by omega) h
  by_cases hh : hasS R s = true
  · have e1 : noteN R s = 0 := by unfold noteN; rw [if_pos hh]
    have e2 : noteR R s = R := by unfold noteR; rw [if_pos hh]
    rw [e1, e2]
    rw [hh] at HCT
    clear e1 e2 hh
    obtain ⟨lo, hi⟩ := s
    dsimp only at HCT
    go_enter Tryz.func113, Tryz.ntmps113
    go_wp2_with (first | (refine sq_ ?_; clear hO; (try clear hf); intro w9 hO hf))
    (refine rg_ hO ((0, 0) :: (0, 1) :: (0, 2) :: (1, 3) :: (1, 4) :: (3, 5) :: []) ?_; clear hO; intro w9 hO; replace hf := fa_ hO; (repeat (first | (apply inRun_p _ rfl rfl rfl; focus (intro w8 K8 hK8; (repeat (first | go_skip | go_guarded | go_step)); exact hK8)) | (apply inRun_l _ rfl rfl rfl; focus (intro w8 hx8 K8 hK8; have hO := hO.ext hx8; (replace hf := fa_ hO); skip; (repeat (first | go_skip | go_guarded | go_step)); exact hK8)) | (apply inRun_q _ rfl; (focus (intro w8 hx8 K8 hK8; have hO := hO.ext hx8; (replace hf := fa_ hO); (repeat (first | go_skip | go_guarded | go_step | (go_at_call 198; (with_reducible refine Calls.mono (HCT _ (rowV (hO.factOf (r := Row2 98 2 ra R.length rc (R.flatMap spC)) pk_))) ?_; rintro e7 w7 ⟨rfl, hx7⟩; dsimp only)))); (first | exact xt_ | exact hK8 _ xt_))); (focus (exact rfl)); intro w8 hx8; replace hO := hO.ext hx8; clear hx8; (replace hf := fa_ hO)))))
    refine inRun_nil ?_
    go_wp2_with (first | (refine sq_ ?_; clear hO; (try clear hf); intro w9 hO hf))
    go_ret
    refine ⟨(), rfl, ?_⟩
    (try simp only [CA])
    (refine Own.toEx (ca, cc, ra, rc) (Own.pack ?_); dsimp only; (try simp only [CA]); exact hO.cut sb_)
  · have hh2 : hasS R s = false := by simpa using hh
    rw [hh2] at HCT
    by_cases h40 : R.length = 40
    · have e1 : noteN R s = 2 := by unfold noteN; rw [if_neg hh, if_pos h40]
      have e2 : noteR R s = R := by unfold noteR; rw [if_neg hh, if_pos h40]
      rw [e1, e2, show errV 2 = .iface 124 (.int .i64 2) from rfl]
      have h40a : 40 ≤ R.length := by omega
      clear e1 e2 hh hh2 h40
      obtain ⟨lo, hi⟩ := s
      dsimp only at HCT
      go_enter Tryz.func113, Tryz.ntmps113
      go_wp2_with (first | (refine sq_ ?_; clear hO; (try clear hf); intro w9 hO hf))
      (refine rg_ hO ((0, 0) :: (0, 1) :: (0, 2) :: (1, 3) :: (1, 4) :: (3, 5) :: []) ?_; clear hO; intro w9 hO; replace hf := fa_ hO; (repeat (first | (apply inRun_p _ rfl rfl rfl; focus (intro w8 K8 hK8; (repeat (first | go_skip | go_guarded | go_step)); exact hK8)) | (apply inRun_l _ rfl rfl rfl; focus (intro w8 hx8 K8 hK8; have hO := hO.ext hx8; (replace hf := fa_ hO); skip; (repeat (first | go_skip | go_guarded | go_step)); exact hK8)) | (apply inRun_q _ rfl; (focus (intro w8 hx8 K8 hK8; have hO := hO.ext hx8; (replace hf := fa_ hO); (repeat (first | go_skip | go_guarded | go_step | (go_at_call 198; (with_reducible refine Calls.mono (HCT _ (rowV (hO.factOf (r := Row2 98 2 ra R.length rc (R.flatMap spC)) pk_))) ?_; rintro e7 w7 ⟨rfl, hx7⟩; dsimp only)))); (first | exact xt_ | exact hK8 _ xt_))); (focus (exact rfl)); intro w8 hx8; replace hO := hO.ext hx8; clear hx8; (replace hf := fa_ hO)))))
      refine inRun_nil ?_
      go_wp2_with (first | (refine sq_ ?_; clear hO; (try clear hf); intro w9 hO hf))
      all_goals try (exfalso; omega; done)
      go_ret
      refine ⟨(), rfl, ?_⟩
      (try simp only [CA])
      (refine Own.toEx (ca, cc, ra, rc) (Own.pack ?_); dsimp only; (try simp only [CA]); exact hO.cut sb_)
    · have e1 : noteN R s = 0 := by unfold noteN; rw [if_neg hh, if_neg h40]
      have e2 : noteR R s = R ++ [s] := by unfold noteR; rw [if_neg hh, if_neg h40]
      rw [e1, e2]
      have h39 : R.length ≤ 39 := by omega
      clear e1 e2 hh hh2 h40
      obtain ⟨lo, hi⟩ := s
      dsimp only at HCT
      go_enter Tryz.func113, Tryz.ntmps113
      go_wp2_with (first | (refine sq_ ?_; clear hO; (try clear hf); intro w9 hO hf))
      (refine rg_ hO ((0, 0) :: (0, 1) :: (0, 2) :: (1, 3) :: (1, 4) :: (3, 5) :: []) ?_; clear hO; intro w9 hO; replace hf := fa_ hO; (repeat (first | (apply inRun_p _ rfl rfl rfl; focus (intro w8 K8 hK8; (repeat (first | go_skip | go_guarded | go_step)); exact hK8)) | (apply inRun_l _ rfl rfl rfl; focus (intro w8 hx8 K8 hK8; have hO := hO.ext hx8; (replace hf := fa_ hO); skip; (repeat (first | go_skip | go_guarded | go_step)); exact hK8)) | (apply inRun_q _ rfl; (focus (intro w8 hx8 K8 hK8; have hO := hO.ext hx8; (replace hf := fa_ hO); (repeat (first | go_skip | go_guarded | go_step | (go_at_call 198; (with_reducible refine Calls.mono (HCT _ (rowV (hO.factOf (r := Row2 98 2 ra R.length rc (R.flatMap spC)) pk_))) ?_; rintro e7 w7 ⟨rfl, hx7⟩; dsimp only)))); (first | exact xt_ | exact hK8 _ xt_))); (focus (exact rfl)); intro w8 hx8; replace hO := hO.ext hx8; clear hx8; (replace hf := fa_ hO)))))
      refine inRun_nil ?_
      go_wp2_with (first | (refine sq_ ?_; clear hO; (try clear hf); intro w9 hO hf))
      all_goals try (exfalso; omega; done)
      (refine rg_ hO ((0, 0) :: (0, 1) :: (0, 2) :: (0, 3) :: (1, 4) :: (1, 5) :: (4, 6) :: (5, 7) :: (0, 8) :: (0, 9) :: (5, 10) :: []) ?_; clear hO; intro w9 hO; replace hf := fa_ hO; (refine ss_ hO ?_; clear hO; (try clear hf); intro w9 hO hf))
      (refine inRun_x rfl ?_; intro K8 hK8; (repeat (first | go_skip | go_guarded | go_step)); refine hK8 _ _ xt_ ?_; clear hK8 K8; with_reducible refine inRun_alloc_own hO ?_; clear hO; intro w9 hO; (replace hf := fa_ hO))
      (refine inRun_d rfl ?_; intro K8 hK8; (repeat (first | go_skip | go_guarded)); refine wpList_append_var (e := 98) (size := 2) (xs := R.flatMap spC) (news := [.string lo, .string hi]) hO pk_ pk_ rfl (.tmp 22) (.tmp 24) 37 rfl iS _ 32 Tryz.underlying37 hiS hzS hsS hbS rfl (by omega) rfl _ _ rfl (by rfl) (by repeat (first | exact ones_nil | refine ones_cons rfl ?_)) (by unfold maxLen; omega) (by omega) ?_; clear hO; intro ka9 kc9 w9 hO; (replace hf := fa_ hO); (repeat go_step); refine hK8 _ _ trivial ?_; clear hK8 K8)
      (refine ss_ hO ?_; clear hO; (try clear hf); intro w9 hO hf)
      (refine inRun_d rfl ?_; intro K8 hK8; (repeat (first | go_skip | go_guarded | go_step)); refine hK8 _ _ trivial ?_; clear hK8 K8; with_reducible apply inRun_set_own; (focus (exact st_ hO)); clear hO; intro w9 hO; (try dsimp only [List.set] at hO); (replace hf := fa_ hO))
      refine inRun_nil ?_
      go_wp2_with (first | (refine sq_ ?_; clear hO; (try clear hf); intro w9 hO hf))
      go_ret
      refine ⟨(), rfl, ?_⟩
      (try simp only [CA])
      refine Own.toEx (ca, cc, ka9, kc9) (Own.pack ?_)
      dsimp only
      rw [show (R ++ [(⟨lo, hi⟩ : Sp)]).length = R.length + 1 from by rw [List.length_append]; rfl, show (R ++ [(⟨lo, hi⟩ : Sp)]).flatMap spC = R.flatMap spC ++ [.string lo, .string hi] from by rw [List.flatMap_append]; rfl]
      (try simp only [CA])
      exact hO.cut sb_
end Go.Proofs.YtagcmjmcjpjihaaGreatDoor
namespace Go.Proofs.YtagcmjmcjpjihaaGreatDoor
open Go.RowKit
theorem Own.immNil {S : Nat → Prop} {W w : World} {l : List Rs} (h : Own S W w l) : Own S W w (.imm (fun w => ChAt w none []) :: l) :=
  Own.toImm (r := Row2 142 3 none 0 0 []) (φ := fun w => ChAt w none []) (fun w h => .inl rfl) (h.nil 142 3)
set_option maxHeartbeats 1000000 in
set_option maxRecDepth 100000 in
theorem vnowV (p nn : Nat) (V : List (ByteArray × List Vn)) : Reads Tryz.prog 101 #[.pointer (some ⟨p, 0, none⟩)] [VerR p nn V] (.int .i64 nn) := by
  intro w L0 hO; simp only [FZ] at hO; obtain ⟨⟨b, clock, L⟩, hO⟩ := hO.frzEx; replace hO := hO.frzMany; dsimp only at hO; simp only [FZ] at hO; (replace hf := fa_ hO)
  go_enter Tryz.func101, Tryz.ntmps101
  go_wp2_with (first | (refine sq_ ?_; clear hO; (try clear hf); intro w9 hO hf))
  go_ret
  exact ⟨rfl, hO.toExt⟩
set_option maxHeartbeats 1000000 in
set_option maxRecDepth 100000 in
theorem vwNew_does (p nn : Nat) (V : List (ByteArray × List Vn)) :
    Does Tryz.prog 67 #[.pointer (some ⟨p, 0, none⟩)] [VerR p nn V] (fun q : Nat => (.pointer (some ⟨q, 0, none⟩), [ViewR q p nn [] [], VerR p nn V])) := by
  have HN := vnowV p nn V
  intro S W w L0 hO; simp only [CA] at hO
  (replace hf := fa_ hO)
  go_enter Tryz.func67, Tryz.ntmps67
  go_wp2_with (first | (go_at_call 101; (with_reducible apply Reads.use hO (HN); (focus exact tk_); refine ru_ ?_; clear hO; (try clear hf); intro w9 hO hf)) | (refine sq_ ?_; clear hO; (try clear hf); intro w9 hO hf))
  obtain ⟨q, hg9⟩ := (hO.pick (r := Var _ [.pointer (some ⟨p, 0, none⟩), .int .i64 nn, .slice none 0 0, .slice none 0 0] 189) pk_).named
  rw [← hg9]; rw [← hg9] at hO; clear hg9
  have hO := (hO.nil 98 2).immNil
  go_ret
  refine ⟨q, rfl, ?_⟩
  (try simp only [CA])
  refine Own.toEx (none, 0, none, 0) (Own.pack ?_)
  simp only [List.length_nil, List.flatMap_nil, List.cons_append, List.nil_append]
  exact hO.cut sb_
noncomputable def getA (V : List (ByteArray × List Vn)) (since : Nat) (C : List Ch) (R : List Sp) (k : ByteArray) : ByteArray × Bool × Nat :=
  if keyN k ≠ 0 then (⟨#[]⟩, false, keyN k) else match findC C k with
    | some c => (c.val, !c.gone, 0)
    | none => if noteN R (Sp.point k) ≠ 0 then (⟨#[]⟩, false, noteN R (Sp.point k)) else ((readV V k since).1, (readV V k since).2, 0)
noncomputable def getB (C : List Ch) (R : List Sp) (k : ByteArray) : List Sp := if keyN k ≠ 0 then R else match findC C k with | some _ => R | none => noteR R (Sp.point k)
theorem noteN_le (R : List Sp) (s : Sp) : noteN R s ≤ 2 := by unfold noteN; split; omega; split <;> omega
theorem Own.toView {S : Nat → Prop} {W w : World} {l l' : List Rs} {q p since : Nat} {C : List Ch} {R : List Sp} {ca ra : Option Addr} {cc rc : Nat} (h : Own S W w l)
    (ht : Takes l [Var q [.pointer (some ⟨p, 0, none⟩), .int .i64 since, .slice ca C.length cc, .slice ra R.length rc] 189, .imm (fun w => ChAt w ca C), Row2 98 2 ra R.length rc (R.flatMap spC)] l') : Own S W w (ViewR q p since C R :: l') :=
  Own.toEx (ca, cc, ra, rc) (Own.pack (h.take ht))
theorem Own.ofView {S : Nat → Prop} {W w : World} {l l' : List Rs} {q p since : Nat} {C : List Ch} {R : List Sp} (h : Own S W w l) (hp : Pick l (ViewR q p since C R) l') : ∃ ca cc ra rc, Own S W w (Var q [.pointer (some ⟨p, 0, none⟩), .int .i64 since, .slice ca C.length cc, .slice ra R.length rc] 189 :: .imm (fun w => ChAt w ca C) :: Row2 98 2 ra R.length rc (R.flatMap spC) :: l') := by
  obtain ⟨⟨ca, cc, ra, rc⟩, h1⟩ := (h.pick hp).ofEx
  exact ⟨ca, cc, ra, rc, h1.unpack⟩
set_option maxHeartbeats 4000000 in
set_option maxRecDepth 100000 in
theorem vget_does (q p since nn : Nat) (V : List (ByteArray × List Vn)) (C : List Ch) (R : List Sp) (k : ByteArray) (hk : k.size ≤ 300) (hC : C.length ≤ 1000) (hU : Ups C) (hR : R.length ≤ 40) (hV : ∀ e ∈ V, e.2.length ≤ 1000000) {φ : World → Prop} (hφ : ∀ w, φ w → LibOk w) :
    Does Tryz.prog 43 #[.pointer (some ⟨q, 0, none⟩), .string k] [ViewR q p since C R, VerR p nn V, .imm φ]
      (fun _ : Unit => (.tuple #[.string (getA V since C R k).1, .bool (getA V since C R k).2.1, errV (getA V since C R k).2.2], [ViewR q p since C (getB C R k), VerR p nn V, .imm φ])) := by
  have HK := fun w h => check_any k w h (by omega)
  have HRD := vread_reads p nn V k since hV
  have HNT := vnote_does q p since C R (Sp.point k) hR
  have HP : ∀ w, Calls Tryz.prog 114 #[.string k] w fun e w' => e = .returned (.agg #[.string (Sp.point k).lo, .string (Sp.point k).hi]) ∧ Ext w w' := fun w => point_any k w (by omega)
  intro S W w L0 hO; simp only [CA] at hO
  by_cases hkn : keyN k ≠ 0
  · have e1 : getA V since C R k = (⟨#[]⟩, false, keyN k) := by unfold getA; rw [if_pos hkn]
    have e2 : getB C R k = R := by unfold getB; rw [if_pos hkn]
    rw [e1, e2]
    dsimp only
    clear e1 e2
    generalize keyN k = N at *
    obtain ⟨N, rfl⟩ : ∃ N', N = N' + 1 := ⟨N - 1, by omega⟩
    rw [show errV (N + 1) = .iface 124 (.int .i64 ((N + 1 : Nat) : Int)) from rfl] at HK ⊢
    (replace hf := fa_ hO)
    go_enter Tryz.func43, Tryz.ntmps43
    go_wp2_with (first | (go_at_call 111; (with_reducible apply Calls.mono (HK _ (hφ _ (Own.immOf (φ := φ) hO pk_))); refine cu_ ?_; clear hO; (try clear hf); intro w8 hO hf)) | (refine sq_ ?_; clear hO; (try clear hf); intro w9 hO hf))
    go_ret3
    refine ⟨(), rfl, ?_⟩
    (try simp only [CA])
    exact hO.cut sb_
  · have hk0 : keyN k = 0 := by omega
    rw [hk0, show errV 0 = .nilIface from rfl] at HK
    obtain ⟨⟨ca, cc, ra, rc⟩, hO⟩ := (hO.pick (r := ViewR q p since C R) pk_).ofEx
    replace hO := hO.unpack
    dsimp only at hO
    simp only [List.cons_append, List.nil_append] at hO
    have HF := fun w h => find_any ca C.length cc C k w rfl hC h hU
    cases hfc : findC C k with
    | some c =>
      have e1 : getA V since C R k = (c.val, !c.gone, 0) := by unfold getA; rw [if_neg hkn, hfc]
      have e2 : getB C R k = R := by unfold getB; rw [if_neg hkn, hfc]
      rw [e1, e2, show errV 0 = .nilIface from rfl]
      rw [hfc] at HF
      clear e1 e2 hkn
      obtain ⟨ck, cv, cg⟩ := c
      simp only [Option.getD_some, Option.isSome_some] at HF
      unfold Ch.v at HF
      dsimp only at HF ⊢
      (replace hf := fa_ hO)
      go_enter Tryz.func43, Tryz.ntmps43
      go_wp2_with (first | (go_at_call 111; (with_reducible apply Calls.mono (HK _ (hφ _ (Own.immOf (φ := φ) hO pk_))); refine cu_ ?_; clear hO; (try clear hf); intro w8 hO hf)) | (go_at_call 112; (with_reducible apply Calls.mono (HF _ (Own.immOf (φ := fun w => ChAt w ca C) hO pk_)); refine cu_ ?_; clear hO; (try clear hf); intro w8 hO hf)) | (refine sq_ ?_; clear hO; (try clear hf); intro w9 hO hf))
      (refine rg_ hO ((0, 0) :: (1, 1) :: (0, 2) :: (1, 3) :: (0, 4) :: (0, 5) :: (0, 6) :: (0, 7) :: []) ?_; clear hO; intro w9 hO; replace hf := fa_ hO; (refine ss_ hO ?_; clear hO; (try clear hf); intro w9 hO hf))
      refine inRun_nil ?_
      go_wp2_with (first | (refine sq_ ?_; clear hO; (try clear hf); intro w9 hO hf))
      go_ret3
      refine ⟨(), rfl, ?_⟩
      (try simp only [CA])
      (refine Own.toEx (ca, cc, ra, rc) (Own.pack ?_); dsimp only; (try simp only [CA]); exact hO.cut sb_)
    | none =>
      rw [hfc] at HF
      simp only [Option.getD_none, Option.isSome_none] at HF
      unfold Ch.v at HF
      dsimp only at HF
      by_cases hnn : noteN R (Sp.point k) ≠ 0
      · have e1 : getA V since C R k = (⟨#[]⟩, false, noteN R (Sp.point k)) := by unfold getA; rw [if_neg hkn, hfc]; dsimp only; rw [if_pos hnn]
        have e2 : getB C R k = noteR R (Sp.point k) := by unfold getB; rw [if_neg hkn, hfc]
        rw [e1, e2]
        clear e1 e2 hkn
        generalize noteN R (Sp.point k) = N at *
        obtain ⟨N, rfl⟩ : ∃ N', N = N' + 1 := ⟨N - 1, by omega⟩
        rw [show errV (N + 1) = .iface 124 (.int .i64 ((N + 1 : Nat) : Int)) from rfl] at HNT ⊢
        generalize noteR R (Sp.point k) = R' at *
        generalize Sp.point k = sp at *
        dsimp only
        (replace hf := fa_ hO)
        go_enter Tryz.func43, Tryz.ntmps43
        go_wp2_with (first | (go_at_call 111; (with_reducible apply Calls.mono (HK _ (hφ _ (Own.immOf (φ := φ) hO pk_))); refine cu_ ?_; clear hO; (try clear hf); intro w8 hO hf)) | (go_at_call 112; (with_reducible apply Calls.mono (HF _ (Own.immOf (φ := fun w => ChAt w ca C) hO pk_)); refine cu_ ?_; clear hO; (try clear hf); intro w8 hO hf)) | (go_at_call 114; (with_reducible apply Calls.mono (HP _); refine cu_ ?_; clear hO; (try clear hf); intro w8 hO hf)) | (go_at_call 113; (replace hO := hO.toView (C := C) (R := R) tk_; (go_at_call 113; (with_reducible apply Does.use hO (HNT); (focus exact tk_); refine du_ ?_; clear hO; (try clear hf); intro x9 w9 hO hf)))) | (refine sq_ ?_; clear hO; (try clear hf); intro w9 hO hf))
        go_ret3
        refine ⟨(), rfl, ?_⟩
        (try simp only [CA])
        exact hO.cut sb_
      · have hn0 : noteN R (Sp.point k) = 0 := by omega
        have e1 : getA V since C R k = ((readV V k since).1, (readV V k since).2, 0) := by unfold getA; rw [if_neg hkn, hfc]; dsimp only; rw [if_neg hnn]
        have e2 : getB C R k = noteR R (Sp.point k) := by unfold getB; rw [if_neg hkn, hfc]
        rw [e1, e2, show errV 0 = .nilIface from rfl]
        rw [hn0, show errV 0 = .nilIface from rfl] at HNT
        clear e1 e2 hkn hnn hn0
        generalize noteR R (Sp.point k) = R' at *
        generalize Sp.point k = sp at *
        generalize readV V k since = y at *
        obtain ⟨yv, yb⟩ := y
        dsimp only at HRD ⊢
        (replace hf := fa_ hO)
        go_enter Tryz.func43, Tryz.ntmps43
        go_upto_region 10 with (first | (go_at_call 111; (with_reducible apply Calls.mono (HK _ (hφ _ (Own.immOf (φ := φ) hO pk_))); refine cu_ ?_; clear hO; (try clear hf); intro w8 hO hf)) | (go_at_call 112; (with_reducible apply Calls.mono (HF _ (Own.immOf (φ := fun w => ChAt w ca C) hO pk_)); refine cu_ ?_; clear hO; (try clear hf); intro w8 hO hf)) | (go_at_call 114; (with_reducible apply Calls.mono (HP _); refine cu_ ?_; clear hO; (try clear hf); intro w8 hO hf)) | (go_at_call 113; (replace hO := hO.toView (C := C) (R := R) tk_; (go_at_call 113; (with_reducible apply Does.use hO (HNT); (focus exact tk_); refine du_ ?_; clear hO; (try clear hf); intro x9 w9 hO hf)))) | (refine sq_ ?_; clear hO; (try clear hf); intro w9 hO hf))
        obtain ⟨ca2, cc2, ra2, rc2, hO⟩ := hO.ofView (C := C) (R := R') pk_
        (replace hf := fa_ hO)
        (refine rg_ hO ((0, 0) :: (0, 1) :: (0, 2) :: (1, 3) :: (0, 4) :: (0, 5) :: (0, 6) :: (0, 7) :: (1, 8) :: (3, 9) :: (0, 10) :: (0, 11) :: (0, 12) :: (0, 13) :: (0, 14) :: []) ?_; clear hO; intro w9 hO; replace hf := fa_ hO; (repeat (first | (apply inRun_p _ rfl rfl rfl; focus (intro w8 K8 hK8; (repeat (first | go_skip | go_guarded | go_step)); exact hK8)) | (apply inRun_l _ rfl rfl rfl; focus (intro w8 hx8 K8 hK8; have hO := hO.ext hx8; (replace hf := fa_ hO); skip; (repeat (first | go_skip | go_guarded | go_step)); exact hK8)) | (apply inRun_q _ rfl; (focus (intro w8 hx8 K8 hK8; have hO := hO.ext hx8; (replace hf := fa_ hO); (repeat (first | go_skip | go_guarded | go_step | (go_at_call 115; (with_reducible refine Reads.use hO (HRD) tk_ ?_; intro w7 hx7 hO7; clear hO7; dsimp only)))); (first | exact xt_ | exact hK8 _ xt_))); (focus (exact rfl)); intro w8 hx8; replace hO := hO.ext hx8; clear hx8; (replace hf := fa_ hO)))))
        refine inRun_nil ?_
        go_wp2_with (first | (refine sq_ ?_; clear hO; (try clear hf); intro w9 hO hf))
        go_ret3
        refine ⟨(), rfl, ?_⟩
        (try simp only [CA])
        (refine Own.toEx (ca2, cc2, ra2, rc2) (Own.pack ?_); dsimp only; (try simp only [CA]); exact hO.cut sb_)
end Go.Proofs.YtagcmjmcjpjihaaGreatDoor
namespace Go.Proofs.YtagcmjmcjpjihaaGreatDoor
open Go.RowKit
noncomputable def putN (C : List Ch) (c : Ch) : Nat := if chN c ≠ 0 then chN c else if 12 < (putC C c).length then 2 else 0
noncomputable def putL (C : List Ch) (c : Ch) : List Ch := if putN C c = 0 then putC C c else C
theorem len_parts (k : ByteArray) : ∀ C : List Ch, (C.filter fun x => slt x.key k).length + (C.filter fun x => slt k x.key).length ≤ C.length
  | [] => Nat.le_refl _
  | x :: l => by
    have ih := len_parts k l
    rw [List.filter_cons, List.filter_cons]
    cases h1 : slt x.key k with
    | true => rw [slt_asymm h1]; simp; omega
    | false => cases h2 : slt k x.key <;> simp <;> omega
theorem Own.rowCi {S : Nat → Prop} {W w : World} {l l' : List Rs} {a : Option Addr} {n c : Nat} {C : List Ch} (h : Own S W w l) (hp : Pick l (Row2 142 3 a n c (chs C)) l') : Own S W w (.imm (fun w => ChAt w a C) :: l') :=
  Own.toImm (r := Row2 142 3 a n c (chs C)) (φ := fun w => ChAt w a C) (fun w h => h.1) (h.pick hp)
set_option maxHeartbeats 4000000 in
set_option maxRecDepth 100000 in
theorem vput_does (q p since : Nat) (C : List Ch) (R : List Sp) (c : Ch) (hk : c.key.size ≤ 300) (hv : c.val.size ≤ 1000) (hC : C.length ≤ 800) (hU : Ups C) {φ : World → Prop} (hφ : ∀ w, φ w → LibOk w) :
    Does Tryz.prog 116 #[.pointer (some ⟨q, 0, none⟩), c.v] [ViewR q p since C R, .imm φ] (fun _ : Unit => (errV (putN C c), [ViewR q p since (putL C c) R, .imm φ])) := by
  have HK := fun w h => chCheck_any c w h hk hv
  intro S W w L0 hO; simp only [CA] at hO
  obtain ⟨ca, cc, ra, rc, hO⟩ := hO.ofView (C := C) (R := R) pk_
  by_cases hn : chN c ≠ 0
  · have e1 : putN C c = chN c := by unfold putN; rw [if_pos hn]
    have e2 : putL C c = C := by unfold putL; rw [if_neg (by rw [e1]; exact hn)]
    rw [e1, e2]
    clear e1 e2
    unfold Ch.v at HK ⊢
    generalize chN c = N at *
    obtain ⟨N, rfl⟩ : ∃ N', N = N' + 1 := ⟨N - 1, by omega⟩
    rw [show errV (N + 1) = .iface 124 (.int .i64 ((N + 1 : Nat) : Int)) from rfl] at HK ⊢
    (replace hf := fa_ hO)
    go_enter Tryz.func116, Tryz.ntmps116
    go_wp2_with (first | (go_at_call 149; (with_reducible apply Calls.mono (HK _ (hφ _ (Own.immOf (φ := φ) hO pk_))); refine cu_ ?_; clear hO; (try clear hf); intro w8 hO hf)) | (refine sq_ ?_; clear hO; (try clear hf); intro w9 hO hf))
    go_ret
    refine ⟨(), rfl, ?_⟩
    (try simp only [CA])
    (refine Own.toEx (ca, cc, ra, rc) (Own.pack ?_); dsimp only; (try simp only [CA]); exact hO.cut sb_)
  · have hn0 : chN c = 0 := by omega
    rw [hn0, show errV 0 = .nilIface from rfl] at HK
    have HPT := put_does ca C.length cc C c rfl (by omega) hU (φ := fun w => ChAt w ca C) fun _ h => h
    have e0 : putN C c = if 12 < (putC C c).length then 2 else 0 := by unfold putN; rw [if_neg hn]
    have e9 : putL C c = if putN C c = 0 then putC C c else C := rfl
    have hpl : (putC C c).length ≤ C.length + 1 := by
      unfold putC low high
      rw [List.length_append, List.length_cons]
      have h1 := len_parts c.key C
      omega
    generalize putC C c = C' at *
    clear hn hn0
    unfold Ch.v at HK HPT ⊢
    by_cases h12 : 12 < C'.length
    · have e1 : putN C c = 2 := by rw [e0, if_pos h12]
      have e2 : putL C c = C := by rw [e9, e1]; rfl
      rw [e1, e2, show errV 2 = .iface 124 (.int .i64 2) from rfl]
      clear e1 e2 e0 e9
      (replace hf := fa_ hO)
      go_enter Tryz.func116, Tryz.ntmps116
      go_wp2_with (first | (go_at_call 149; (with_reducible apply Calls.mono (HK _ (hφ _ (Own.immOf (φ := φ) hO pk_))); refine cu_ ?_; clear hO; (try clear hf); intro w8 hO hf)) | (refine sq_ ?_; clear hO; (try clear hf); intro w9 hO hf))
      (refine rg_ hO ((0, 0) :: (0, 1) :: (0, 2) :: (1, 3) :: (1, 4) :: (5, 5) :: (0, 6) :: []) ?_; clear hO; intro w9 hO; replace hf := fa_ hO; (refine ss_ hO ?_; clear hO; (try clear hf); intro w9 hO hf))
      (refine inRun_d rfl ?_; intro K8 hK8; (repeat (first | go_skip | go_guarded | go_step)); (go_at_call 200; (with_reducible apply Does.use hO (HPT); (focus exact tk_); refine du_ ?_; clear hO; (try clear hf); intro x9 w9 hO hf; (obtain ⟨pa, pc⟩ := x9; dsimp only at hO ⊢; (replace hf := fa_ hO)))); (repeat go_step); refine hK8 _ _ trivial ?_; clear hK8 K8)
      (refine ss_ hO ?_; clear hO; (try clear hf); intro w9 hO hf)
      refine inRun_nil ?_
      go_wp2_with (first | (refine sq_ ?_; clear hO; (try clear hf); intro w9 hO hf))
      all_goals try (exfalso; omega; done)
      go_ret
      refine ⟨(), rfl, ?_⟩
      (try simp only [CA])
      (refine Own.toEx (ca, cc, ra, rc) (Own.pack ?_); dsimp only; (try simp only [CA]); exact hO.cut sb_)
    · have e1 : putN C c = 0 := by rw [e0, if_neg h12]
      have e2 : putL C c = C' := by rw [e9, e1]; rfl
      rw [e1, e2, show errV 0 = .nilIface from rfl]
      clear e1 e2 e0 e9
      (replace hf := fa_ hO)
      go_enter Tryz.func116, Tryz.ntmps116
      go_wp2_with (first | (go_at_call 149; (with_reducible apply Calls.mono (HK _ (hφ _ (Own.immOf (φ := φ) hO pk_))); refine cu_ ?_; clear hO; (try clear hf); intro w8 hO hf)) | (refine sq_ ?_; clear hO; (try clear hf); intro w9 hO hf))
      (refine rg_ hO ((0, 0) :: (0, 1) :: (0, 2) :: (1, 3) :: (1, 4) :: (5, 5) :: (0, 6) :: []) ?_; clear hO; intro w9 hO; replace hf := fa_ hO; (refine ss_ hO ?_; clear hO; (try clear hf); intro w9 hO hf))
      (refine inRun_d rfl ?_; intro K8 hK8; (repeat (first | go_skip | go_guarded | go_step)); (go_at_call 200; (with_reducible apply Does.use hO (HPT); (focus exact tk_); refine du_ ?_; clear hO; (try clear hf); intro x9 w9 hO hf; (obtain ⟨pa, pc⟩ := x9; dsimp only at hO ⊢; (replace hf := fa_ hO)))); (repeat go_step); refine hK8 _ _ trivial ?_; clear hK8 K8)
      (refine ss_ hO ?_; clear hO; (try clear hf); intro w9 hO hf)
      refine inRun_nil ?_
      go_wp2_with (first | (refine sq_ ?_; clear hO; (try clear hf); intro w9 hO hf))
      all_goals try (exfalso; omega; done)
      have hO := hO.rowCi (a := pa) (C := C') pk_
      go_ret
      refine ⟨(), rfl, ?_⟩
      (try simp only [CA])
      refine Own.toEx (pa, pc, ra, rc) (Own.pack ?_)
      dsimp only
      (try simp only [CA])
      exact hO.cut sb_
end Go.Proofs.YtagcmjmcjpjihaaGreatDoor
namespace Go.Proofs.YtagcmjmcjpjihaaGreatDoor
open Go.RowKit
set_option maxHeartbeats 1000000 in
set_option maxRecDepth 100000 in
theorem vPut_does (q p since : Nat) (C : List Ch) (R : List Sp) (key val : ByteArray) (hk : key.size ≤ 300) (hv : val.size ≤ 1000) (hC : C.length ≤ 800) (hU : Ups C) {φ : World → Prop} (hφ : ∀ w, φ w → LibOk w) :
    Does Tryz.prog 44 #[.pointer (some ⟨q, 0, none⟩), .string key, .string val] [ViewR q p since C R, .imm φ] (fun _ : Unit => (errV (putN C ⟨key, val, false⟩), [ViewR q p since (putL C ⟨key, val, false⟩) R, .imm φ])) := by
  have HP := vput_does q p since C R ⟨key, val, false⟩ hk hv hC hU hφ
  generalize putN C ⟨key, val, false⟩ = N at *
  generalize putL C ⟨key, val, false⟩ = C' at *
  unfold Ch.v at HP
  generalize errV N = ev at *
  intro S W w L0 hO; simp only [CA] at hO
  (replace hf := fa_ hO)
  go_enter Tryz.func44, Tryz.ntmps44
  go_wp2_with (first | (go_at_call 116; (with_reducible apply Does.use hO (HP); (focus exact tk_); refine du_ ?_; clear hO; (try clear hf); intro x9 w9 hO hf)) | (refine sq_ ?_; clear hO; (try clear hf); intro w9 hO hf))
  go_ret
  exact ⟨(), rfl, hO⟩
set_option maxHeartbeats 1000000 in
set_option maxRecDepth 100000 in
theorem vChanges_does (q p since : Nat) (C : List Ch) (R : List Sp) (hC : C.length ≤ 1000) :
    Does Tryz.prog 61 #[.pointer (some ⟨q, 0, none⟩)] [ViewR q p since C R] (fun x : Option Addr × Nat => (.slice x.1 C.length x.2, [ViewR q p since C R, Row2 142 3 x.1 C.length x.2 (chs C)])) := by
  intro S W w L0 hO; simp only [CA] at hO
  obtain ⟨ca, cc, ra, rc, hO⟩ := hO.ofView (C := C) (R := R) (.here _ _)
  have HCL := cloneC_any ca C.length cc C rfl hC (φ := fun w => ChAt w ca C) fun _ h => h
  (replace hf := fa_ hO)
  go_enter Tryz.func61, Tryz.ntmps61
  go_wp2_with (first | (go_at_call 139; (with_reducible apply Does.use hO (HCL); (focus exact tk_); refine du_ ?_; clear hO; (try clear hf); intro x9 w9 hO hf; (obtain ⟨ma, mc⟩ := x9; dsimp only at hO ⊢; (replace hf := fa_ hO)))) | (refine sq_ ?_; clear hO; (try clear hf); intro w9 hO hf))
  go_ret
  refine ⟨(ma, mc), rfl, ?_⟩
  (try simp only [CA])
  (refine Own.toEx (ca, cc, ra, rc) (Own.pack ?_); dsimp only; (try simp only [CA]); exact hO.cut sb_)
end Go.Proofs.YtagcmjmcjpjihaaGreatDoor
namespace Go.Proofs.YtagcmjmcjpjihaaGreatDoor
open Go.RowKit
/-- Rows of a span behind a change. -/
theorem inR_app {l : List Rw} (h : RUps l) (lo hi : ByteArray) (c : Ch) : inR lo hi (appR l c) = if hasB lo hi c.key = true then appR (inR lo hi l) c else inR lo hi l := by
  have hi0 : RUps (inR lo hi l) := List.Pairwise.filter _ h
  have hm : ∀ (r : Rw) (L : List Rw), r ∈ inR lo hi L ↔ r ∈ L ∧ hasB lo hi r.key = true := fun r L => List.mem_filter
  by_cases hc : hasB lo hi c.key = true
  · rw [if_pos hc]
    refine RUps.ext (List.Pairwise.filter _ (appF_ups h)) (appF_ups hi0) fun r => ?_
    unfold appR
    rw [hm, mem_appF, mem_appF, hm]
    constructor
    · rintro ⟨⟨h1, h2⟩ | ⟨h1, h2⟩, h3⟩
      · exact .inl ⟨⟨h1, h3⟩, h2⟩
      · exact .inr ⟨h1, h2⟩
    · rintro (⟨⟨h1, h3⟩, h2⟩ | ⟨h1, h2⟩)
      · exact ⟨.inl ⟨h1, h2⟩, h3⟩
      · exact ⟨.inr ⟨h1, h2⟩, by rw [h2]; exact hc⟩
  · rw [if_neg hc]
    refine RUps.ext (List.Pairwise.filter _ (appF_ups h)) hi0 fun r => ?_
    unfold appR
    rw [hm, mem_appF, hm]
    constructor
    · rintro ⟨⟨h1, h2⟩ | ⟨h1, h2⟩, h3⟩
      · exact ⟨h1, h3⟩
      · rw [h2] at h3; exact absurd h3 hc
    · rintro ⟨h1, h3⟩
      exact ⟨.inl ⟨h1, fun he => hc (by rw [← he]; exact h3)⟩, h3⟩
def inC (lo hi : ByteArray) (C : List Ch) : List Ch := C.filter fun c => hasB lo hi c.key
theorem inR_apps (lo hi : ByteArray) : ∀ (C : List Ch) {l : List Rw}, RUps l → inR lo hi (C.foldl appR l) = (inC lo hi C).foldl appR (inR lo hi l)
  | [], _, _ => rfl
  | c :: C, l, h => by
    rw [List.foldl_cons, inR_apps lo hi C (show RUps (appR l c) from appF_ups h), inR_app h]
    unfold inC
    rw [List.filter_cons]
    by_cases hc : hasB lo hi c.key = true
    · rw [if_pos hc, if_pos hc, List.foldl_cons]
    · rw [if_neg hc, if_neg hc]
/-- What a scan reads of a span, with rows L of it, at most so many. -/
def scnS (L : List Rw) (lo hi : ByteArray) (most : Int) : Sp := if most ≤ L.length then Sp.both ⟨lo, hi⟩ ⟨⟨#[]⟩, (L.getD (most.toNat - 1) ⟨⟨#[]⟩, ⟨#[]⟩⟩).key ++ nul⟩ else ⟨lo, hi⟩
def scnN (L : List Rw) (R : List Sp) (lo hi : ByteArray) (most : Int) : Nat := if most < 1 then 1 else noteN R (scnS L lo hi most)
def scnB (L : List Rw) (R : List Sp) (lo hi : ByteArray) (most : Int) : List Sp := if most < 1 then R else noteR R (scnS L lo hi most)
end Go.Proofs.YtagcmjmcjpjihaaGreatDoor
namespace Go.Proofs.YtagcmjmcjpjihaaGreatDoor
open Go.RowKit
theorem Own.rowSp {S : Nat → Prop} {W w : World} {l l' : List Rs} {a : Option Addr} {n c : Nat} {xs : List Value} (h : Own S W w l) (hp : Pick l (Row2 98 2 a n c xs) l') : Own S W w (.imm (fun w => ValsAt w a xs) :: l') :=
  Own.toImm (r := Row2 98 2 a n c xs) (φ := fun w => ValsAt w a xs) (fun w h => h.1) (h.pick hp)
theorem spC_ones (R : List Sp) : ∀ u ∈ R.flatMap spC, u.oneCell' = true := fun u hu => by
  obtain ⟨x, _, hx⟩ := List.mem_flatMap.1 hu
  simp [spC] at hx
  rcases hx with rfl | rfl <;> rfl
/-- What a view tells of a key, where y stands in the rows. -/
noncomputable def getG (y : ByteArray × Bool) (C : List Ch) (R : List Sp) (k : ByteArray) : ByteArray × Bool × Nat :=
  if keyN k ≠ 0 then (⟨#[]⟩, false, keyN k) else match findC C k with
    | some c => (c.val, !c.gone, 0)
    | none => if noteN R (Sp.point k) ≠ 0 then (⟨#[]⟩, false, noteN R (Sp.point k)) else (y.1, y.2, 0)
theorem getA_G (V : List (ByteArray × List Vn)) (since : Nat) (C : List Ch) (R : List Sp) (k : ByteArray) : getA V since C R k = getG (readV V k since) C R k := rfl
end Go.Proofs.YtagcmjmcjpjihaaGreatDoor
namespace Go.Proofs.YtagcmjmcjpjihaaGreatDoor
open Go.RowKit
set_option maxHeartbeats 1000000 in
set_option maxRecDepth 100000 in
theorem cloneS_any (a : Option Addr) (n c : Nat) (l : List Sp) (hl : l.length = n) (hn : n ≤ 1000) :
    Does Tryz.prog 148 #[.slice a n c] [Row2 98 2 a n c (l.flatMap spC)] (fun x : Option Addr × Nat => (.slice x.1 n x.2, [Row2 98 2 x.1 n x.2 (l.flatMap spC), Row2 98 2 a n c (l.flatMap spC)])) := by
  obtain ⟨iS, hiS, hzS, hsS, hbS⟩ := info_parts Tryz.infoSp
  have HFL := Lib.hid (flat_len spC 2 (fun _ => rfl) l)
  intro S W w L0 hO; simp only [CA] at hO
  (replace hf := fa_ hO)
  have hu := Tryz.underlying37
  cases a with
  | none =>
    obtain ⟨h0, h1⟩ := hO.rowNil (.here _ _)
    subst h0 h1
    have h0 := List.length_eq_zero_iff.1 hl
    subst h0
    go_enter Tryz.func148, Tryz.ntmps148
    go_wp2_with (first | (refine sq_ ?_; clear hO; (try clear hf); intro w9 hO hf))
    go_ret
    refine ⟨(none, 0), rfl, ?_⟩
    exact hO.nil _ _
  | some ad =>
    subst hl
    go_enter Tryz.func148, Tryz.ntmps148
    go_wp2_with (first | (at_builtin; (have hO9 := hO.pick (r := Var _ [] 98) pk_; replace hO := Own.varRow (n := 0) (size := 2) rfl (by simp [maxLen]) hO9; clear hO9; refine wpList_append_src hO pk_ rfl (.tmp 5) (.tmp 6) 37 rfl iS _ 32 Tryz.underlying37 hiS hzS hsS hbS rfl (by omega) rfl (some ad) l.length _ (l.flatMap spC) rfl HFL.out (rowV (hO.factOf (r := Row2 98 2 (some ad) l.length c (l.flatMap spC)) pk_)) (spC_ones l) (by unfold maxLen; omega) (by omega) ?_; clear hO; intro ka9 kc9 w9 hO; (replace hf := fa_ hO))) | (refine sq_ ?_; clear hO; (try clear hf); intro w9 hO hf))
    go_ret
    refine ⟨(ka9, kc9), by simp, ?_⟩
    simp only [Nat.zero_add, List.nil_append] at hO
    exact hO.give tk_ kp_
set_option maxHeartbeats 1000000 in
set_option maxRecDepth 100000 in
theorem vReads_does (q p since : Nat) (C : List Ch) (R : List Sp) (hR : R.length ≤ 1000) :
    Does Tryz.prog 70 #[.pointer (some ⟨q, 0, none⟩)] [ViewR q p since C R] (fun x : Option Addr × Nat => (.slice x.1 R.length x.2, [ViewR q p since C R, .imm (fun w => ValsAt w x.1 (R.flatMap spC))])) := by
  intro S W w L0 hO; simp only [CA] at hO
  obtain ⟨ca, cc, ra, rc, hO⟩ := hO.ofView (C := C) (R := R) (.here _ _)
  have HCL := cloneS_any ra R.length rc R rfl hR
  (replace hf := fa_ hO)
  go_enter Tryz.func70, Tryz.ntmps70
  go_wp2_with (first | (go_at_call 148; (with_reducible apply Does.use hO (HCL); (focus exact tk_); refine du_ ?_; clear hO; (try clear hf); intro x9 w9 hO hf; (obtain ⟨na, nc⟩ := x9; dsimp only at hO ⊢; (replace hf := fa_ hO)))) | (refine sq_ ?_; clear hO; (try clear hf); intro w9 hO hf))
  have hO := hO.rowSp (a := na) (c := nc) pk_
  have hO := hO.toView (C := C) (R := R) tk_
  go_ret
  refine ⟨(na, nc), rfl, ?_⟩
  (try simp only [CA])
  exact hO.cut sb_
set_option maxHeartbeats 1000000 in
set_option maxRecDepth 100000 in
theorem vSince_reads (q p since : Nat) (C : List Ch) (R : List Sp) : Reads Tryz.prog 68 #[.pointer (some ⟨q, 0, none⟩)] [ViewR q p since C R] (.int .i64 since) := by
  intro w L0 hO; simp only [FZ] at hO; obtain ⟨⟨ca, cc, ra, rc⟩, hO⟩ := hO.frzEx; replace hO := hO.frzMany; dsimp only at hO; simp only [FZ] at hO; (replace hf := fa_ hO)
  go_enter Tryz.func68, Tryz.ntmps68
  go_wp2_with (first | (refine sq_ ?_; clear hO; (try clear hf); intro w9 hO hf))
  go_ret
  exact ⟨rfl, hO.toExt⟩
end Go.Proofs.YtagcmjmcjpjihaaGreatDoor
namespace Go.Proofs.YtagcmjmcjpjihaaGreatDoor
open Go.RowKit
end Go.Proofs.YtagcmjmcjpjihaaGreatDoor
