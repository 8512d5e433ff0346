/- Texts TopCrash of this claim, laid together. -/
import Derived.Test.YtmknhibaoopjjaaGreatDoorGTopCrashProof37
import Derived.Test.YtmknhibaoopjjaaGreatDoorGTopCrashProof31
set_option linter.unusedVariables false
set_option linter.unusedSimpArgs false
set_option linter.unnecessarySimpa false
namespace Go.Proofs.YtmknhibaoopjjaaGreatDoor
open Go.RowKit Go.Lib
theorem StUp.armed {k : Nat} (k1 : 54 ≤ k) (k2 : k ≤ 200) (n : Int) (hn : n ≤ 9223372036854775807) : StUp k { newD k with fuse := if n < -1 then -1 else n } newH [] [] 0 := by
  obtain ⟨h1, h2⟩ := StB.new k1 k2
  exact ⟨h1, ⟨rfl, rfl, rfl⟩, (StUp.new k1 k2).ok.arm n hn, .inl h2⟩
theorem StUp.re {k : Nat} {d : Dk} {h : Hd} {R0 : List Rw} {W : List (List Ch)} {u : Nat} (U : StUp k d h R0 W u) (K : Int) : StOn k (d.restart K) h.ep (rowsW R0 W) := by
  have e : (d.restart K).now = d.now := by
    unfold Dk.restart
    dsimp only
    rw [U.calm.wait]
    exact U.calm.kept
  exact ⟨h, R0, W, u, ⟨by rw [e]; exact U.st, ⟨rfl, rfl, rfl⟩, U.ok.restart K, .inr rfl⟩, rfl, Nat.le_refl _, rfl⟩
theorem commitN_nil {R : List Rw} {m : Nat} (h : R.length ≤ 40) (hm : 1 ≤ m) : commitN R [] m = 0 :=
  commitN_ok (by simp) rfl (by simp only [List.foldl_nil, List.length_nil]; omega)
theorem nextR_nil (R : List Rw) : nextR R [] 0 = R := rfl
theorem ckT_10 (s p m b : Nat) (H : Hd) (R : List Rw) (e : Dk) (q : Nat) : ckT s p m b H R 10 e q = [DiskR p e, .imm LibOk] := rfl
/-- What the law is handed. -/
def TcArg (da : Option Addr) (D : List DV) (w : World) : Prop := LibOk w ∧ DIn w da D
theorem TcArg.base {da : Option Addr} {D : List DV} {w : World} (h : TcArg da D w) : Own (fun _ => False) w w [.imm (TcArg da D)] :=
  Own.base w _ fun w' hw' => ⟨h.1.up hw', h.2.up hw'⟩
set_option maxHeartbeats 8000000 in
set_option maxRecDepth 100000 in
theorem topCrash_any (da : Option Addr) (n dc : Nat) (D : List DV) (fuse K : Int) (W : World) (hφ : TcArg da D W) (hdl : D.length = n) (hn : n ≤ 9223372036854775807) (hK0 : 0 ≤ K) (hK1 : K < 18446744073709551616) :
    Calls Tryz.prog 8 #[.slice da n dc, .int .i64 fuse, .int .u64 K] W fun e w' => e = .returned (.bool true) ∧ Ext W w' := by
  have hO := (hφ.base.again).imp (ψ := LibOk) fun _ h => h.1
  have HG := fun w (h : TcArg da D w) => kept_any w h.1
  have HL : ∀ w, TcArg da D w → Calls Tryz.prog 48 #[.slice da n dc, .int .i64 20] w fun e w' => e = .returned (.bool (lightDs D 20)) ∧ w' = w := fun w h => lightDs_any da n dc D 20 w hdl hn (by omega) h.2
  have HS1 := stored_does 20 (by omega) (by omega)
  rw [show ((20 : Nat) : Int) + 50 = 70 from rfl] at HS1
  unfold stT at HS1
  dsimp only [stC] at HS1
  ((try clear hf); have hf := fa_ hO)
  go_enter Tryz.func8, Tryz.ntmps8
  cases hli : lightDs D 20 with
  | false =>
    rw [hli] at HL
    go_wp2_with (first | (go_at_call 46; (with_reducible apply Calls.mono (HG _ (Own.immOf (φ := TcArg da D) hO pk_)); rintro e8 w8 ⟨rfl, hx8⟩; replace hO := hO.ext hx8; clear hx8; dsimp only; ((try clear hf); have hf := fa_ hO))) | (go_at_call 47; (with_reducible refine Does.use hO (HS1) tk_ ?_; clear hO; intro x9 w9 hO; dsimp only at hO ⊢; simp only [CA] at hO; ((try clear hf); have hf := fa_ hO); (obtain ⟨p, s, q, b⟩ := x9; dsimp only at hO ⊢; ((try clear hf); have hf := fa_ hO)))) | (go_at_call 48; (with_reducible apply Calls.mono (HL _ (Own.immOf (φ := TcArg da D) hO pk_)); rintro e8 w8 ⟨rfl, rfl⟩; dsimp only)) | ((refine sy_ hO ?_); clear hO; intro w9 hO; (try dsimp only [List.set] at hO); ((try clear hf); have hf := fa_ hO)))
    go_ret
    exact ⟨rfl, hO.toExt⟩
  | true =>
    rw [hli] at HL
    obtain ⟨h20, hlc⟩ := lightDs_of hli
    have HAR := fun p => arm_does p (newD (20 + 50)) (min (max fuse (-1)) 400)
    have hUA := StUp.armed (k := 20 + 50) (by omega) (by omega) (min (max fuse (-1)) 400) (by omega)
    generalize ({ newD (20 + 50) with fuse := if min (max fuse (-1)) 400 < -1 then -1 else min (max fuse (-1)) 400 } : Dk) = d0 at *
    go_wp2_with (first | (go_at_call 46; (with_reducible apply Calls.mono (HG _ (Own.immOf (φ := TcArg da D) hO pk_)); rintro e8 w8 ⟨rfl, hx8⟩; replace hO := hO.ext hx8; clear hx8; dsimp only; ((try clear hf); have hf := fa_ hO))) | (go_at_call 47; (with_reducible refine Does.use hO (HS1) tk_ ?_; clear hO; intro x9 w9 hO; dsimp only at hO ⊢; simp only [CA] at hO; ((try clear hf); have hf := fa_ hO); (obtain ⟨p, s, q, b⟩ := x9; dsimp only at hO ⊢; ((try clear hf); have hf := fa_ hO)))) | (go_at_call 48; (with_reducible apply Calls.mono (HL _ (Own.immOf (φ := TcArg da D) hO pk_)); rintro e8 w8 ⟨rfl, rfl⟩; dsimp only)) | (go_at_call 50; (with_reducible refine Does.use hO (HAR _) tk_ ?_; clear hO; intro x9 w9 hO; dsimp only at hO ⊢; simp only [CA] at hO; ((try clear hf); have hf := fa_ hO))) | ((refine sy_ hO ?_); clear hO; intro w9 hO; (try dsimp only [List.set] at hO); ((try clear hf); have hf := fa_ hO)))
    have h8 := Own.rowImm (xs := ([] : List Rw).flatMap rwC) (hO.nil 80 2) (.here _ _)
    have h8 := h8.again
    have hO9 : Own (fun _ => False) W _ [(.imm fun w => ValsAt w none (([] : List Rw).flatMap rwC)), (.imm fun w => ValsAt w none (([] : List Rw).flatMap rwC)), Var s [.pointer (some ⟨p, 0, none⟩), .int .i64 (newH.ep : Int), .int .i64 (newH.si : Int), .int .i64 (newH.sz : Int), .int .i64 (newH.fi : Int), .pointer (some ⟨q, 0, none⟩), .map (some b)] 160, Var q [.pointer (some ⟨p, 0, none⟩), .int .i64 ((50 : Nat) : Int), .int .i64 ((20 : Nat) : Int), .int .i64 (newH.fi : Int), .int .i64 ((0 : Nat) : Int)] 226, StM b [], DiskR p d0, .imm LibOk, .imm (TcArg da D)] := h8.cut sb_
    clear hO hf h8
    go_loopw [10, 11, 12] (fun v10 v11 v12 wr => ∃ (i q b u wc lc : Nat) (wa la : Option Addr) (h : Hd) (R0 R L : List Rw) (W0 : List (List Ch)) (d : Dk), v10 = .slice wa R.length wc ∧ v11 = .slice la L.length lc ∧ v12 = .int .i64 i ∧ i ≤ n ∧
      Hid (StUp (20 + 50) d h R0 W0 u ∧ rowsW R0 W0 = R ∧ h.ep ≤ 2 * i + 1) ∧ L.length ≤ 40 ∧
      Own (fun _ => False) W wr [(.imm fun w => ValsAt w wa (R.flatMap rwC)), (.imm fun w => ValsAt w la (L.flatMap rwC)), Var s [.pointer (some ⟨p, 0, none⟩), .int .i64 (h.ep : Int), .int .i64 (h.si : Int), .int .i64 (h.sz : Int), .int .i64 (h.fi : Int), .pointer (some ⟨q, 0, none⟩), .map (some b)] 160, Var q [.pointer (some ⟨p, 0, none⟩), .int .i64 ((50 : Nat) : Int), .int .i64 ((20 : Nat) : Int), .int .i64 (h.fi : Int), .int .i64 (u : Int)] 226, StM b R, DiskR p d, .imm LibOk, .imm (TcArg da D)]) (fun _ _ v _ => n + 1 - (intOf v).toNat)
    case atStart => exact ⟨0, q, b, 0, 0, 0, none, none, newH, [], [], [], [], d0, rfl, rfl, rfl, by omega, Lib.hid ⟨hUA, rfl, Nat.le_refl _⟩, by simp, hO9⟩
    case round =>
      clear hO9 hUA
      obtain ⟨i, q, b, u, wc, lc, wa, la, h, R0, R, L, W0, d, rfl, rfl, rfl, hi, HI, hLl, hO⟩ := hrel
      rename World => w1
      obtain ⟨U, hR, hep⟩ := HI.out
      clear HI
      obtain ⟨g1, g2, g3, g4, g5, g6, g7, g8, g9⟩ := U.facts
      have hRl : R.length ≤ 40 := by rw [← hR]; exact U.st.now.len
      ((try clear hf); have hf := fa_ hO)
      by_cases hlt : i < n
      · have hi2 : i < D.length := by omega
        have hm := List.getElem_mem hi2
        have hdin := (Own.immOf (φ := TcArg da D) hO pk_).2
        obtain ⟨b9, off, rfl⟩ := DIn.some hdin (by omega)
        have c0 := DIn.at hdin hi2
        have hc0 := fun w (h : TcArg (some ⟨b9, off, none⟩) D w) => DIn.at h.2 hi2
        have hlen := (hlc _ hm).1
        have hch := fun w (h : TcArg (some ⟨b9, off, none⟩) D w) => h.2.1.2 _ hm
        have hsz : ∀ c ∈ (D[i]).2.2, c.key.size ≤ 300 ∧ c.val.size ≤ 1000 := fun c hc => ⟨by have := ((hlc _ hm).2 c hc).1; omega, by have := ((hlc _ hm).2 c hc).2; omega⟩
        clear hm hdin
        generalize D[i] = x at *
        obtain ⟨xa, xc, xch⟩ := x
        dsimp only [dv] at *
        have HAP := applied_does wa R.length wc R xa xch.length xc xch rfl (by omega) rfl (by omega) (φ := fun w => ValsAt w wa (R.flatMap rwC) ∧ ValsAt w xa (chs xch)) (fun _ h => h.1) (fun _ h => h.2)
        obtain ⟨R', hR'⟩ : ∃ R', xch.foldl appR R = R' := ⟨_, rfl⟩
        rw [hR'] at HAP
        have HR' := Lib.hid hR'
        clear hR'
        by_cases h54 : i % 5 = 4
        · have h54i : (i : Int) % 5 = 4 := by omega
          obtain ⟨c, d2, hw, HCK⟩ := ckpt_gen s b p q 20 u d h R0 W0 U (by omega)
          rw [hR] at hw HCK
          rcases hw with ⟨rfl, U2, hfu⟩ | ⟨rfl, hne, hDk, hon1⟩
          · have hep' : (ckH (20 + 50) h R).ep = h.ep + 1 := rfl
            generalize ckH (20 + 50) h R = H2 at *
            have HN0 : ∀ w, Calls Tryz.prog 49 #[.nilIface] w fun e w' => e = .returned (.int .i64 0) ∧ w' = w := fun w => number_any 0 w (by omega)
            rw [show errV 0 = .nilIface from rfl] at HCK
            unfold stT ckT at HCK
            simp only [if_true] at HCK
            dsimp only [stC] at HCK
            simp only [CA] at HCK
            clear U hR
            have hep2 : H2.ep ≤ 2 * i + 2 := by omega
            clear hep hep'
            obtain ⟨g1, g2, g3, g4, g5, g6, g7, g8, g9⟩ := U2.facts
            go_wp2_with (first | (go_at_call 36; (with_reducible refine Does.use hO (HCK) tk_ ?_; clear hO; intro x9 w9 hO; dsimp only at hO ⊢; simp only [CA] at hO; ((try clear hf); have hf := fa_ hO); (rename Nat => q5; have c9 := hc0 _ (Own.immOf (φ := TcArg (some ⟨b9, off, none⟩) D) hO pk_)))) | (go_at_call 49; (with_reducible apply Calls.mono (HN0 _); rintro e8 w8 ⟨rfl, rfl⟩; dsimp only)) | ((refine sy_ hO ?_); clear hO; intro w9 hO; (try dsimp only [List.set] at hO); ((try clear hf); have hf := fa_ hO)))
            all_goals try (exfalso; omega; done)
            have hRR : rowsW R [] = R := rfl
            obtain ⟨c, d3, H3, T, hw3, HC⟩ := scommit_gen s b p q5 20 0 d2 H2 R [] U2 (by omega) xa xch.length xc xch rfl (by omega) hsz (φ := TcArg (some ⟨b9, off, none⟩) D) (fun w h => ⟨h.1, hch w h⟩)
            rw [hRR] at hw3 HC
            replace hO := ((hO.pick (r := .imm (TcArg (some ⟨b9, off, none⟩) D)) pk_).again).imp (ψ := fun w => ValsAt w xa (chs xch)) hch
            replace hO := (hO.pick (r := .imm fun w => ValsAt w wa (R.flatMap rwC)) pk_).again
            replace hO := (hO.take (rs := [.imm fun w => ValsAt w wa (R.flatMap rwC), .imm fun w => ValsAt w xa (chs xch)]) tk_)
            simp only [List.cons_append, List.nil_append] at hO
            replace hO := hO.and
            ((try clear hf); have hf := fa_ hO)
            rcases hw3 with ⟨a1, a2, a3, rfl⟩ | ⟨rfl, a1, ⟨Ra, Wa, U3, hr3⟩, hep3, hfu3, rfl⟩ | ⟨rfl, a1, hne3, hDk, hon3, rfl⟩
            · have HN := fun w => number_any c w (by omega)
              have HI2 := Lib.hid (show StUp (20 + 50) d2 H2 R [] 0 ∧ rowsW R [] = R ∧ H2.ep ≤ 2 * (i + 1) + 1 from ⟨U2, hRR, by omega⟩)
              clear U2 hRR a3 hch hsz
              obtain ⟨N, rfl⟩ : ∃ N, c = N + 1 := ⟨c - 1, by omega⟩
              have hN10 : ((N + 1 : Nat) : Int) ≠ 10 := by omega
              rw [show errV (N + 1) = .iface 127 (.int .i64 ((N + 1 : Nat) : Int)) from rfl] at HC HN
              generalize N + 1 = N' at *
              unfold stT at HC
              dsimp only [stC] at HC
              simp only [CA] at HC
              go_wp2_with (first | (go_at_call 51; (with_reducible refine Does.use hO (HAP) tk_ ?_; clear hO; intro x9 w9 hO; dsimp only at hO ⊢; simp only [CA] at hO; ((try clear hf); have hf := fa_ hO); (obtain ⟨na, nc⟩ := x9; dsimp only at hO ⊢; replace hO := hO.rowImm (a := na) (n := R'.length) (c := nc) (xs := R'.flatMap rwC) pk_; have c9 := hc0 _ (Own.immOf (φ := TcArg (some ⟨b9, off, none⟩) D) hO pk_); ((try clear hf); have hf := fa_ hO)))) | (go_at_call 34; (with_reducible refine Does.use hO (HC) tk_ ?_; clear hO; intro x9 w9 hO; dsimp only at hO ⊢; simp only [CA] at hO; ((try clear hf); have hf := fa_ hO))) | (go_at_call 49; (with_reducible apply Calls.mono (HN _); rintro e8 w8 ⟨rfl, rfl⟩; dsimp only)) | ((refine sy_ hO ?_); clear hO; intro w9 hO; (try dsimp only [List.set] at hO); ((try clear hf); have hf := fa_ hO)))
              all_goals try (exfalso; omega; done)
              exact ⟨⟨i + 1, q5, b, 0, wc, lc, wa, la, H2, R, R, L, [], d2, rfl, rfl, by go_num, by omega, HI2, hLl, hO.cut sb_⟩, by simp [intOf]; omega⟩
            · rw [HR'.out] at hr3 HC
              generalize usedC 0 xch.length 20 = u3 at *
              have HI2 := Lib.hid (show StUp (20 + 50) d3 H3 Ra Wa u3 ∧ rowsW Ra Wa = R' ∧ H3.ep ≤ 2 * (i + 1) + 1 from ⟨U3, hr3, by omega⟩)
              have hLl' : R'.length ≤ 40 := by rw [← hr3]; exact U3.st.now.len
              clear U2 hRR hch hsz U3 hr3
              rw [show errV 0 = .nilIface from rfl] at HC
              unfold stT at HC
              dsimp only [stC] at HC
              simp only [CA] at HC
              go_wp2_with (first | (go_at_call 51; (with_reducible refine Does.use hO (HAP) tk_ ?_; clear hO; intro x9 w9 hO; dsimp only at hO ⊢; simp only [CA] at hO; ((try clear hf); have hf := fa_ hO); (obtain ⟨na, nc⟩ := x9; dsimp only at hO ⊢; replace hO := hO.rowImm (a := na) (n := R'.length) (c := nc) (xs := R'.flatMap rwC) pk_; have c9 := hc0 _ (Own.immOf (φ := TcArg (some ⟨b9, off, none⟩) D) hO pk_); ((try clear hf); have hf := fa_ hO)))) | (go_at_call 34; (with_reducible refine Does.use hO (HC) tk_ ?_; clear hO; intro x9 w9 hO; dsimp only at hO ⊢; simp only [CA] at hO; ((try clear hf); have hf := fa_ hO); (obtain ⟨q7, b7⟩ := x9; dsimp only at hO ⊢; ((try clear hf); have hf := fa_ hO)))) | ((refine sy_ hO ?_); clear hO; intro w9 hO; (try dsimp only [List.set] at hO); ((try clear hf); have hf := fa_ hO)))
              all_goals try (exfalso; omega; done)
              replace hO := (hO.pick (r := .imm fun w => ValsAt w na (R'.flatMap rwC)) pk_).again
              exact ⟨⟨i + 1, q7, b7, u3, nc, nc, na, na, H3, Ra, R', R', Wa, d3, rfl, rfl, by go_num, by omega, HI2, hLl', hO.cut sb_⟩, by simp [intOf]; omega⟩
            · have HN : ∀ w, Calls Tryz.prog 49 #[errV 10] w fun e w' => e = .returned (.int .i64 10) ∧ w' = w := fun w => number_any 10 w (by omega)
              rw [show errV 10 = .iface 127 (.int .i64 10) from rfl] at HC HN
              have hLl' : R'.length ≤ 40 := by have := (commitN_zero a1).2.2; rw [HR'.out] at this; omega
              rw [HR'.out] at hon3
              have hon : ∀ K : Int, StOn (20 + 50) (d3.restart K) 100 R ∨ StOn (20 + 50) (d3.restart K) 100 R' := fun K => (hon3 K).imp (fun x => x.mono (by omega)) fun x => x.mono (by omega)
              clear U2 hRR hch hsz hon3
              unfold stT at HC
              dsimp only [stC] at HC
              simp only [CA] at HC
              go_wp2_with (first | (go_at_call 51; (with_reducible refine Does.use hO (HAP) tk_ ?_; clear hO; intro x9 w9 hO; dsimp only at hO ⊢; simp only [CA] at hO; ((try clear hf); have hf := fa_ hO); (obtain ⟨na, nc⟩ := x9; dsimp only at hO ⊢; replace hO := hO.rowImm (a := na) (n := R'.length) (c := nc) (xs := R'.flatMap rwC) pk_; have c9 := hc0 _ (Own.immOf (φ := TcArg (some ⟨b9, off, none⟩) D) hO pk_); ((try clear hf); have hf := fa_ hO)))) | (go_at_call 34; (with_reducible refine Does.use hO (HC) tk_ ?_; clear hO; intro x9 w9 hO; dsimp only at hO ⊢; simp only [CA] at hO; ((try clear hf); have hf := fa_ hO))) | (go_at_call 49; (with_reducible apply Calls.mono (HN _); rintro e8 w8 ⟨rfl, rfl⟩; dsimp only)) | ((refine sy_ hO ?_); clear hO; intro w9 hO; (try dsimp only [List.set] at hO); ((try clear hf); have hf := fa_ hO)))
              all_goals try (exfalso; omega; done)
              have HRS := restart_does p d3 K hK0 hK1 (by rw [hDk.now]; omega) (by rw [hDk.now, hDk.kept]) (by have := hDk.wait; omega) (by rw [hDk.now]; exact hDk.ats)
              have hon2 := hon K
              clear hon hDk
              generalize Dk.restart d3 K = d2 at *
              rcases hon2 with ⟨h2, R2, W2, u2, U2, hr2, hep2, hf2⟩ | ⟨h2, R2, W2, u2, U2, hr2, hep2, hf2⟩
              · skip
                have HOP := open_gen p 20 d2 h2 R2 W2 u2 U2
                rw [hr2] at HOP
                unfold stT at HOP
                dsimp only [stC] at HOP
                simp only [CA] at HOP
                have hGl : R.length ≤ 40 := by rw [← hr2]; exact U2.st.now.len
                go_wp2_with (first | (go_at_call 52; (with_reducible refine Does.use hO (HRS) tk_ ?_; clear hO; intro x9 w9 hO; dsimp only at hO ⊢; simp only [CA] at hO; ((try clear hf); have hf := fa_ hO))) | (go_at_call 32; (with_reducible refine Does.use hO (HOP) tk_ ?_; clear hO; intro x9 w9 hO; dsimp only at hO ⊢; simp only [CA] at hO; ((try clear hf); have hf := fa_ hO); (obtain ⟨t, q6, b6⟩ := x9; dsimp only at hO ⊢; ((try clear hf); have hf := fa_ hO)))) | ((refine sy_ hO ?_); clear hO; intro w9 hO; (try dsimp only [List.set] at hO); ((try clear hf); have hf := fa_ hO)))
                have HR1 := (srows_does t b6 R (by omega) (.pointer (some ⟨p, 0, none⟩)) (.int .i64 (h2.ep : Int)) (.int .i64 (h2.si : Int)) (.int .i64 (h2.sz : Int)) (.int .i64 (h2.fi : Int)) (.pointer (some ⟨q6, 0, none⟩)))
                go_wp2_with (first | (go_at_call 38; (with_reducible refine Does.use hO (HR1) tk_ ?_; clear hO; intro x9 w9 hO; dsimp only at hO ⊢; simp only [CA] at hO; ((try clear hf); have hf := fa_ hO); (obtain ⟨xa1, xc1⟩ := x9; dsimp only at hO ⊢; replace hO := hO.rowImm (a := xa1) (n := R.length) (c := xc1) (xs := R.flatMap rwC) pk_; ((try clear hf); have hf := fa_ hO)))) | ((refine sy_ hO ?_); clear hO; intro w9 hO; (try dsimp only [List.set] at hO); ((try clear hf); have hf := fa_ hO)))
                obtain ⟨d3, h3, R3, W3, u3, U3, hr3, he3, hf3, HC3⟩ := scommit_q t b6 p q6 20 u2 d2 h2 R2 W2 U2 (by omega) hf2 none 0 0 [] rfl (by omega) (fun c hc => (List.not_mem_nil hc).elim) (φ := LibOk) (fun w h => ⟨h, .inl rfl⟩) hr2
                rw [commitN_nil hGl (by omega), nextR_nil] at hr3 HC3
                rw [show errV 0 = .nilIface from rfl] at HC3
                unfold stT at HC3
                dsimp only [stC] at HC3
                simp only [CA] at HC3
                go_wp2_with (first | (go_at_call 25; (with_reducible apply Calls.mono (sameRows_any xa1 wa R.length xc1 wc R _ rfl (by omega) (Own.immOf (φ := fun w => ValsAt w xa1 (R.flatMap rwC)) hO pk_) (Own.immOf (φ := fun w => ValsAt w wa (R.flatMap rwC)) hO pk_)); rintro e8 w8 ⟨rfl, hx8⟩; replace hO := hO.ext hx8; clear hx8; dsimp only; ((try clear hf); have hf := fa_ hO))) | (go_at_call 34; (with_reducible refine Does.use hO (HC3) tk_ ?_; clear hO; intro x9 w9 hO; dsimp only at hO ⊢; simp only [CA] at hO; ((try clear hf); have hf := fa_ hO); (obtain ⟨q7, b7⟩ := x9; dsimp only at hO ⊢; ((try clear hf); have hf := fa_ hO)))) | ((refine sy_ hO ?_); clear hO; intro w9 hO; (try dsimp only [List.set] at hO); ((try clear hf); have hf := fa_ hO)))
                all_goals try (exfalso; omega; done)
                obtain ⟨d4, h4, U4, he4, hf4, HK4⟩ := ckpt_q t b7 p q7 20 u3 d3 h3 R3 W3 U3 (by omega) hf3 hr3
                unfold stT at HK4
                dsimp only [stC] at HK4
                simp only [CA] at HK4
                have HOP4 := open_gen p 20 d4 h4 R [] 0 U4
                rw [rowsW_nil] at HOP4
                unfold stT at HOP4
                dsimp only [stC] at HOP4
                simp only [CA] at HOP4
                clear U2 U3 U4 hr2 hr3
                go_wp2_with (first | (go_at_call 36; (with_reducible refine Does.use hO (HK4) tk_ ?_; clear hO; intro x9 w9 hO; dsimp only at hO ⊢; simp only [CA] at hO; ((try clear hf); have hf := fa_ hO); rename Nat => q8)) | (go_at_call 32; (with_reducible refine Does.use hO (HOP4) tk_ ?_; clear hO; intro x9 w9 hO; dsimp only at hO ⊢; simp only [CA] at hO; ((try clear hf); have hf := fa_ hO); (obtain ⟨t2, q9, b9'⟩ := x9; dsimp only at hO ⊢; ((try clear hf); have hf := fa_ hO)))) | ((refine sy_ hO ?_); clear hO; intro w9 hO; (try dsimp only [List.set] at hO); ((try clear hf); have hf := fa_ hO)))
                have HR4 := (srows_does t2 b9' R (by omega) (.pointer (some ⟨p, 0, none⟩)) (.int .i64 (h4.ep : Int)) (.int .i64 (h4.si : Int)) (.int .i64 (h4.sz : Int)) (.int .i64 (h4.fi : Int)) (.pointer (some ⟨q9, 0, none⟩)))
                go_wp2_with (first | (go_at_call 38; (with_reducible refine Does.use hO (HR4) tk_ ?_; clear hO; intro x9 w9 hO; dsimp only at hO ⊢; simp only [CA] at hO; ((try clear hf); have hf := fa_ hO); (obtain ⟨xa2, xc2⟩ := x9; dsimp only at hO ⊢; replace hO := hO.rowImm (a := xa2) (n := R.length) (c := xc2) (xs := R.flatMap rwC) pk_; ((try clear hf); have hf := fa_ hO)))) | (go_at_call 25; (with_reducible apply Calls.mono (sameRows_any xa2 xa1 R.length xc2 xc1 R _ rfl (by omega) (Own.immOf (φ := fun w => ValsAt w xa2 (R.flatMap rwC)) hO pk_) (Own.immOf (φ := fun w => ValsAt w xa1 (R.flatMap rwC)) hO pk_)); rintro e8 w8 ⟨rfl, hx8⟩; replace hO := hO.ext hx8; clear hx8; dsimp only; ((try clear hf); have hf := fa_ hO))) | ((refine sy_ hO ?_); clear hO; intro w9 hO; (try dsimp only [List.set] at hO); ((try clear hf); have hf := fa_ hO)))
                all_goals try (exfalso; omega; done)
                go_ret
                exact ⟨rfl, hO.toExt⟩
              · skip
                have HOP := open_gen p 20 d2 h2 R2 W2 u2 U2
                rw [hr2] at HOP
                unfold stT at HOP
                dsimp only [stC] at HOP
                simp only [CA] at HOP
                have hGl : R'.length ≤ 40 := by rw [← hr2]; exact U2.st.now.len
                go_wp2_with (first | (go_at_call 52; (with_reducible refine Does.use hO (HRS) tk_ ?_; clear hO; intro x9 w9 hO; dsimp only at hO ⊢; simp only [CA] at hO; ((try clear hf); have hf := fa_ hO))) | (go_at_call 32; (with_reducible refine Does.use hO (HOP) tk_ ?_; clear hO; intro x9 w9 hO; dsimp only at hO ⊢; simp only [CA] at hO; ((try clear hf); have hf := fa_ hO); (obtain ⟨t, q6, b6⟩ := x9; dsimp only at hO ⊢; ((try clear hf); have hf := fa_ hO)))) | ((refine sy_ hO ?_); clear hO; intro w9 hO; (try dsimp only [List.set] at hO); ((try clear hf); have hf := fa_ hO)))
                have HR1 := (srows_does t b6 R' (by omega) (.pointer (some ⟨p, 0, none⟩)) (.int .i64 (h2.ep : Int)) (.int .i64 (h2.si : Int)) (.int .i64 (h2.sz : Int)) (.int .i64 (h2.fi : Int)) (.pointer (some ⟨q6, 0, none⟩)))
                go_wp2_with (first | (go_at_call 38; (with_reducible refine Does.use hO (HR1) tk_ ?_; clear hO; intro x9 w9 hO; dsimp only at hO ⊢; simp only [CA] at hO; ((try clear hf); have hf := fa_ hO); (obtain ⟨xa1, xc1⟩ := x9; dsimp only at hO ⊢; replace hO := hO.rowImm (a := xa1) (n := R'.length) (c := xc1) (xs := R'.flatMap rwC) pk_; ((try clear hf); have hf := fa_ hO)))) | ((refine sy_ hO ?_); clear hO; intro w9 hO; (try dsimp only [List.set] at hO); ((try clear hf); have hf := fa_ hO)))
                obtain ⟨B1, hB1, HSB⟩ := sameRows_bool xa1 wa R'.length xc1 R.length wc R' R _ rfl rfl (by omega) (by omega) (Own.immOf (φ := fun w => ValsAt w xa1 (R'.flatMap rwC)) hO pk_) (Own.immOf (φ := fun w => ValsAt w wa (R.flatMap rwC)) hO pk_)
                refine Calls.mono HSB ?_
                rintro e8 w8 ⟨rfl, hx8⟩
                replace hO := hO.ext hx8
                clear hx8 HSB hB1
                dsimp only
                ((try clear hf); have hf := fa_ hO)
                cases B1 with
                | true =>
                  obtain ⟨d3, h3, R3, W3, u3, U3, hr3, he3, hf3, HC3⟩ := scommit_q t b6 p q6 20 u2 d2 h2 R2 W2 U2 (by omega) hf2 none 0 0 [] rfl (by omega) (fun c hc => (List.not_mem_nil hc).elim) (φ := LibOk) (fun w h => ⟨h, .inl rfl⟩) hr2
                  rw [commitN_nil hGl (by omega), nextR_nil] at hr3 HC3
                  rw [show errV 0 = .nilIface from rfl] at HC3
                  unfold stT at HC3
                  dsimp only [stC] at HC3
                  simp only [CA] at HC3
                  go_wp2_with (first | fail | (go_at_call 34; (with_reducible refine Does.use hO (HC3) tk_ ?_; clear hO; intro x9 w9 hO; dsimp only at hO ⊢; simp only [CA] at hO; ((try clear hf); have hf := fa_ hO); (obtain ⟨q7, b7⟩ := x9; dsimp only at hO ⊢; ((try clear hf); have hf := fa_ hO)))) | ((refine sy_ hO ?_); clear hO; intro w9 hO; (try dsimp only [List.set] at hO); ((try clear hf); have hf := fa_ hO)))
                  all_goals try (exfalso; omega; done)
                  obtain ⟨d4, h4, U4, he4, hf4, HK4⟩ := ckpt_q t b7 p q7 20 u3 d3 h3 R3 W3 U3 (by omega) hf3 hr3
                  unfold stT at HK4
                  dsimp only [stC] at HK4
                  simp only [CA] at HK4
                  have HOP4 := open_gen p 20 d4 h4 R' [] 0 U4
                  rw [rowsW_nil] at HOP4
                  unfold stT at HOP4
                  dsimp only [stC] at HOP4
                  simp only [CA] at HOP4
                  clear U2 U3 U4 hr2 hr3
                  go_wp2_with (first | (go_at_call 36; (with_reducible refine Does.use hO (HK4) tk_ ?_; clear hO; intro x9 w9 hO; dsimp only at hO ⊢; simp only [CA] at hO; ((try clear hf); have hf := fa_ hO); rename Nat => q8)) | (go_at_call 32; (with_reducible refine Does.use hO (HOP4) tk_ ?_; clear hO; intro x9 w9 hO; dsimp only at hO ⊢; simp only [CA] at hO; ((try clear hf); have hf := fa_ hO); (obtain ⟨t2, q9, b9'⟩ := x9; dsimp only at hO ⊢; ((try clear hf); have hf := fa_ hO)))) | ((refine sy_ hO ?_); clear hO; intro w9 hO; (try dsimp only [List.set] at hO); ((try clear hf); have hf := fa_ hO)))
                  have HR4 := (srows_does t2 b9' R' (by omega) (.pointer (some ⟨p, 0, none⟩)) (.int .i64 (h4.ep : Int)) (.int .i64 (h4.si : Int)) (.int .i64 (h4.sz : Int)) (.int .i64 (h4.fi : Int)) (.pointer (some ⟨q9, 0, none⟩)))
                  go_wp2_with (first | (go_at_call 38; (with_reducible refine Does.use hO (HR4) tk_ ?_; clear hO; intro x9 w9 hO; dsimp only at hO ⊢; simp only [CA] at hO; ((try clear hf); have hf := fa_ hO); (obtain ⟨xa2, xc2⟩ := x9; dsimp only at hO ⊢; replace hO := hO.rowImm (a := xa2) (n := R'.length) (c := xc2) (xs := R'.flatMap rwC) pk_; ((try clear hf); have hf := fa_ hO)))) | (go_at_call 25; (with_reducible apply Calls.mono (sameRows_any xa2 xa1 R'.length xc2 xc1 R' _ rfl (by omega) (Own.immOf (φ := fun w => ValsAt w xa2 (R'.flatMap rwC)) hO pk_) (Own.immOf (φ := fun w => ValsAt w xa1 (R'.flatMap rwC)) hO pk_)); rintro e8 w8 ⟨rfl, hx8⟩; replace hO := hO.ext hx8; clear hx8; dsimp only; ((try clear hf); have hf := fa_ hO))) | ((refine sy_ hO ?_); clear hO; intro w9 hO; (try dsimp only [List.set] at hO); ((try clear hf); have hf := fa_ hO)))
                  all_goals try (exfalso; omega; done)
                  go_ret
                  exact ⟨rfl, hO.toExt⟩
                | false =>
                  obtain ⟨d3, h3, R3, W3, u3, U3, hr3, he3, hf3, HC3⟩ := scommit_q t b6 p q6 20 u2 d2 h2 R2 W2 U2 (by omega) hf2 none 0 0 [] rfl (by omega) (fun c hc => (List.not_mem_nil hc).elim) (φ := LibOk) (fun w h => ⟨h, .inl rfl⟩) hr2
                  rw [commitN_nil hGl (by omega), nextR_nil] at hr3 HC3
                  rw [show errV 0 = .nilIface from rfl] at HC3
                  unfold stT at HC3
                  dsimp only [stC] at HC3
                  simp only [CA] at HC3
                  go_wp2_with (first | (go_at_call 25; (with_reducible apply Calls.mono (sameRows_any xa1 na R'.length xc1 nc R' _ rfl (by omega) (Own.immOf (φ := fun w => ValsAt w xa1 (R'.flatMap rwC)) hO pk_) (Own.immOf (φ := fun w => ValsAt w na (R'.flatMap rwC)) hO pk_)); rintro e8 w8 ⟨rfl, hx8⟩; replace hO := hO.ext hx8; clear hx8; dsimp only; ((try clear hf); have hf := fa_ hO))) | (go_at_call 34; (with_reducible refine Does.use hO (HC3) tk_ ?_; clear hO; intro x9 w9 hO; dsimp only at hO ⊢; simp only [CA] at hO; ((try clear hf); have hf := fa_ hO); (obtain ⟨q7, b7⟩ := x9; dsimp only at hO ⊢; ((try clear hf); have hf := fa_ hO)))) | ((refine sy_ hO ?_); clear hO; intro w9 hO; (try dsimp only [List.set] at hO); ((try clear hf); have hf := fa_ hO)))
                  all_goals try (exfalso; omega; done)
                  obtain ⟨d4, h4, U4, he4, hf4, HK4⟩ := ckpt_q t b7 p q7 20 u3 d3 h3 R3 W3 U3 (by omega) hf3 hr3
                  unfold stT at HK4
                  dsimp only [stC] at HK4
                  simp only [CA] at HK4
                  have HOP4 := open_gen p 20 d4 h4 R' [] 0 U4
                  rw [rowsW_nil] at HOP4
                  unfold stT at HOP4
                  dsimp only [stC] at HOP4
                  simp only [CA] at HOP4
                  clear U2 U3 U4 hr2 hr3
                  go_wp2_with (first | (go_at_call 36; (with_reducible refine Does.use hO (HK4) tk_ ?_; clear hO; intro x9 w9 hO; dsimp only at hO ⊢; simp only [CA] at hO; ((try clear hf); have hf := fa_ hO); rename Nat => q8)) | (go_at_call 32; (with_reducible refine Does.use hO (HOP4) tk_ ?_; clear hO; intro x9 w9 hO; dsimp only at hO ⊢; simp only [CA] at hO; ((try clear hf); have hf := fa_ hO); (obtain ⟨t2, q9, b9'⟩ := x9; dsimp only at hO ⊢; ((try clear hf); have hf := fa_ hO)))) | ((refine sy_ hO ?_); clear hO; intro w9 hO; (try dsimp only [List.set] at hO); ((try clear hf); have hf := fa_ hO)))
                  have HR4 := (srows_does t2 b9' R' (by omega) (.pointer (some ⟨p, 0, none⟩)) (.int .i64 (h4.ep : Int)) (.int .i64 (h4.si : Int)) (.int .i64 (h4.sz : Int)) (.int .i64 (h4.fi : Int)) (.pointer (some ⟨q9, 0, none⟩)))
                  go_wp2_with (first | (go_at_call 38; (with_reducible refine Does.use hO (HR4) tk_ ?_; clear hO; intro x9 w9 hO; dsimp only at hO ⊢; simp only [CA] at hO; ((try clear hf); have hf := fa_ hO); (obtain ⟨xa2, xc2⟩ := x9; dsimp only at hO ⊢; replace hO := hO.rowImm (a := xa2) (n := R'.length) (c := xc2) (xs := R'.flatMap rwC) pk_; ((try clear hf); have hf := fa_ hO)))) | (go_at_call 25; (with_reducible apply Calls.mono (sameRows_any xa2 xa1 R'.length xc2 xc1 R' _ rfl (by omega) (Own.immOf (φ := fun w => ValsAt w xa2 (R'.flatMap rwC)) hO pk_) (Own.immOf (φ := fun w => ValsAt w xa1 (R'.flatMap rwC)) hO pk_)); rintro e8 w8 ⟨rfl, hx8⟩; replace hO := hO.ext hx8; clear hx8; dsimp only; ((try clear hf); have hf := fa_ hO))) | ((refine sy_ hO ?_); clear hO; intro w9 hO; (try dsimp only [List.set] at hO); ((try clear hf); have hf := fa_ hO)))
                  all_goals try (exfalso; omega; done)
                  go_ret
                  exact ⟨rfl, hO.toExt⟩
          · have HN0 : ∀ w, Calls Tryz.prog 49 #[errV 10] w fun e w' => e = .returned (.int .i64 10) ∧ w' = w := fun w => number_any 10 w (by omega)
            rw [show errV 10 = .iface 127 (.int .i64 10) from rfl] at HCK HN0
            unfold stT at HCK
            simp only [ckT_10] at HCK
            dsimp only [stC] at HCK
            simp only [CA] at HCK
            have hon : ∀ K : Int, StOn (20 + 50) (d2.restart K) 100 R ∨ StOn (20 + 50) (d2.restart K) 100 L := fun K => .inl ((hon1 K).mono (by omega))
            clear hon1 U hR
            go_wp2_with (first | (go_at_call 36; (with_reducible refine Does.use hO (HCK) tk_ ?_; clear hO; intro x9 w9 hO; dsimp only at hO ⊢; simp only [CA] at hO; ((try clear hf); have hf := fa_ hO))) | (go_at_call 49; (with_reducible apply Calls.mono (HN0 _); rintro e8 w8 ⟨rfl, rfl⟩; dsimp only)) | ((refine sy_ hO ?_); clear hO; intro w9 hO; (try dsimp only [List.set] at hO); ((try clear hf); have hf := fa_ hO)))
            all_goals try (exfalso; omega; done)
            have HRS := restart_does p d2 K hK0 hK1 (by rw [hDk.now]; omega) (by rw [hDk.now, hDk.kept]) (by have := hDk.wait; omega) (by rw [hDk.now]; exact hDk.ats)
            have hon2 := hon K
            clear hon hDk
            generalize Dk.restart d2 K = d2 at *
            rcases hon2 with ⟨h2, R2, W2, u2, U2, hr2, hep2, hf2⟩ | ⟨h2, R2, W2, u2, U2, hr2, hep2, hf2⟩
            · skip
              have HOP := open_gen p 20 d2 h2 R2 W2 u2 U2
              rw [hr2] at HOP
              unfold stT at HOP
              dsimp only [stC] at HOP
              simp only [CA] at HOP
              have hGl : R.length ≤ 40 := by rw [← hr2]; exact U2.st.now.len
              go_wp2_with (first | (go_at_call 52; (with_reducible refine Does.use hO (HRS) tk_ ?_; clear hO; intro x9 w9 hO; dsimp only at hO ⊢; simp only [CA] at hO; ((try clear hf); have hf := fa_ hO))) | (go_at_call 32; (with_reducible refine Does.use hO (HOP) tk_ ?_; clear hO; intro x9 w9 hO; dsimp only at hO ⊢; simp only [CA] at hO; ((try clear hf); have hf := fa_ hO); (obtain ⟨t, q6, b6⟩ := x9; dsimp only at hO ⊢; ((try clear hf); have hf := fa_ hO)))) | ((refine sy_ hO ?_); clear hO; intro w9 hO; (try dsimp only [List.set] at hO); ((try clear hf); have hf := fa_ hO)))
              have HR1 := (srows_does t b6 R (by omega) (.pointer (some ⟨p, 0, none⟩)) (.int .i64 (h2.ep : Int)) (.int .i64 (h2.si : Int)) (.int .i64 (h2.sz : Int)) (.int .i64 (h2.fi : Int)) (.pointer (some ⟨q6, 0, none⟩)))
              go_wp2_with (first | (go_at_call 38; (with_reducible refine Does.use hO (HR1) tk_ ?_; clear hO; intro x9 w9 hO; dsimp only at hO ⊢; simp only [CA] at hO; ((try clear hf); have hf := fa_ hO); (obtain ⟨xa1, xc1⟩ := x9; dsimp only at hO ⊢; replace hO := hO.rowImm (a := xa1) (n := R.length) (c := xc1) (xs := R.flatMap rwC) pk_; ((try clear hf); have hf := fa_ hO)))) | ((refine sy_ hO ?_); clear hO; intro w9 hO; (try dsimp only [List.set] at hO); ((try clear hf); have hf := fa_ hO)))
              obtain ⟨d3, h3, R3, W3, u3, U3, hr3, he3, hf3, HC3⟩ := scommit_q t b6 p q6 20 u2 d2 h2 R2 W2 U2 (by omega) hf2 none 0 0 [] rfl (by omega) (fun c hc => (List.not_mem_nil hc).elim) (φ := LibOk) (fun w h => ⟨h, .inl rfl⟩) hr2
              rw [commitN_nil hGl (by omega), nextR_nil] at hr3 HC3
              rw [show errV 0 = .nilIface from rfl] at HC3
              unfold stT at HC3
              dsimp only [stC] at HC3
              simp only [CA] at HC3
              go_wp2_with (first | (go_at_call 25; (with_reducible apply Calls.mono (sameRows_any xa1 wa R.length xc1 wc R _ rfl (by omega) (Own.immOf (φ := fun w => ValsAt w xa1 (R.flatMap rwC)) hO pk_) (Own.immOf (φ := fun w => ValsAt w wa (R.flatMap rwC)) hO pk_)); rintro e8 w8 ⟨rfl, hx8⟩; replace hO := hO.ext hx8; clear hx8; dsimp only; ((try clear hf); have hf := fa_ hO))) | (go_at_call 34; (with_reducible refine Does.use hO (HC3) tk_ ?_; clear hO; intro x9 w9 hO; dsimp only at hO ⊢; simp only [CA] at hO; ((try clear hf); have hf := fa_ hO); (obtain ⟨q7, b7⟩ := x9; dsimp only at hO ⊢; ((try clear hf); have hf := fa_ hO)))) | ((refine sy_ hO ?_); clear hO; intro w9 hO; (try dsimp only [List.set] at hO); ((try clear hf); have hf := fa_ hO)))
              all_goals try (exfalso; omega; done)
              obtain ⟨d4, h4, U4, he4, hf4, HK4⟩ := ckpt_q t b7 p q7 20 u3 d3 h3 R3 W3 U3 (by omega) hf3 hr3
              unfold stT at HK4
              dsimp only [stC] at HK4
              simp only [CA] at HK4
              have HOP4 := open_gen p 20 d4 h4 R [] 0 U4
              rw [rowsW_nil] at HOP4
              unfold stT at HOP4
              dsimp only [stC] at HOP4
              simp only [CA] at HOP4
              clear U2 U3 U4 hr2 hr3
              go_wp2_with (first | (go_at_call 36; (with_reducible refine Does.use hO (HK4) tk_ ?_; clear hO; intro x9 w9 hO; dsimp only at hO ⊢; simp only [CA] at hO; ((try clear hf); have hf := fa_ hO); rename Nat => q8)) | (go_at_call 32; (with_reducible refine Does.use hO (HOP4) tk_ ?_; clear hO; intro x9 w9 hO; dsimp only at hO ⊢; simp only [CA] at hO; ((try clear hf); have hf := fa_ hO); (obtain ⟨t2, q9, b9'⟩ := x9; dsimp only at hO ⊢; ((try clear hf); have hf := fa_ hO)))) | ((refine sy_ hO ?_); clear hO; intro w9 hO; (try dsimp only [List.set] at hO); ((try clear hf); have hf := fa_ hO)))
              have HR4 := (srows_does t2 b9' R (by omega) (.pointer (some ⟨p, 0, none⟩)) (.int .i64 (h4.ep : Int)) (.int .i64 (h4.si : Int)) (.int .i64 (h4.sz : Int)) (.int .i64 (h4.fi : Int)) (.pointer (some ⟨q9, 0, none⟩)))
              go_wp2_with (first | (go_at_call 38; (with_reducible refine Does.use hO (HR4) tk_ ?_; clear hO; intro x9 w9 hO; dsimp only at hO ⊢; simp only [CA] at hO; ((try clear hf); have hf := fa_ hO); (obtain ⟨xa2, xc2⟩ := x9; dsimp only at hO ⊢; replace hO := hO.rowImm (a := xa2) (n := R.length) (c := xc2) (xs := R.flatMap rwC) pk_; ((try clear hf); have hf := fa_ hO)))) | (go_at_call 25; (with_reducible apply Calls.mono (sameRows_any xa2 xa1 R.length xc2 xc1 R _ rfl (by omega) (Own.immOf (φ := fun w => ValsAt w xa2 (R.flatMap rwC)) hO pk_) (Own.immOf (φ := fun w => ValsAt w xa1 (R.flatMap rwC)) hO pk_)); rintro e8 w8 ⟨rfl, hx8⟩; replace hO := hO.ext hx8; clear hx8; dsimp only; ((try clear hf); have hf := fa_ hO))) | ((refine sy_ hO ?_); clear hO; intro w9 hO; (try dsimp only [List.set] at hO); ((try clear hf); have hf := fa_ hO)))
              all_goals try (exfalso; omega; done)
              go_ret
              exact ⟨rfl, hO.toExt⟩
            · skip
              have HOP := open_gen p 20 d2 h2 R2 W2 u2 U2
              rw [hr2] at HOP
              unfold stT at HOP
              dsimp only [stC] at HOP
              simp only [CA] at HOP
              have hGl : L.length ≤ 40 := by rw [← hr2]; exact U2.st.now.len
              go_wp2_with (first | (go_at_call 52; (with_reducible refine Does.use hO (HRS) tk_ ?_; clear hO; intro x9 w9 hO; dsimp only at hO ⊢; simp only [CA] at hO; ((try clear hf); have hf := fa_ hO))) | (go_at_call 32; (with_reducible refine Does.use hO (HOP) tk_ ?_; clear hO; intro x9 w9 hO; dsimp only at hO ⊢; simp only [CA] at hO; ((try clear hf); have hf := fa_ hO); (obtain ⟨t, q6, b6⟩ := x9; dsimp only at hO ⊢; ((try clear hf); have hf := fa_ hO)))) | ((refine sy_ hO ?_); clear hO; intro w9 hO; (try dsimp only [List.set] at hO); ((try clear hf); have hf := fa_ hO)))
              have HR1 := (srows_does t b6 L (by omega) (.pointer (some ⟨p, 0, none⟩)) (.int .i64 (h2.ep : Int)) (.int .i64 (h2.si : Int)) (.int .i64 (h2.sz : Int)) (.int .i64 (h2.fi : Int)) (.pointer (some ⟨q6, 0, none⟩)))
              go_wp2_with (first | (go_at_call 38; (with_reducible refine Does.use hO (HR1) tk_ ?_; clear hO; intro x9 w9 hO; dsimp only at hO ⊢; simp only [CA] at hO; ((try clear hf); have hf := fa_ hO); (obtain ⟨xa1, xc1⟩ := x9; dsimp only at hO ⊢; replace hO := hO.rowImm (a := xa1) (n := L.length) (c := xc1) (xs := L.flatMap rwC) pk_; ((try clear hf); have hf := fa_ hO)))) | ((refine sy_ hO ?_); clear hO; intro w9 hO; (try dsimp only [List.set] at hO); ((try clear hf); have hf := fa_ hO)))
              obtain ⟨B1, hB1, HSB⟩ := sameRows_bool xa1 wa L.length xc1 R.length wc L R _ rfl rfl (by omega) (by omega) (Own.immOf (φ := fun w => ValsAt w xa1 (L.flatMap rwC)) hO pk_) (Own.immOf (φ := fun w => ValsAt w wa (R.flatMap rwC)) hO pk_)
              refine Calls.mono HSB ?_
              rintro e8 w8 ⟨rfl, hx8⟩
              replace hO := hO.ext hx8
              clear hx8 HSB hB1
              dsimp only
              ((try clear hf); have hf := fa_ hO)
              cases B1 with
              | true =>
                obtain ⟨d3, h3, R3, W3, u3, U3, hr3, he3, hf3, HC3⟩ := scommit_q t b6 p q6 20 u2 d2 h2 R2 W2 U2 (by omega) hf2 none 0 0 [] rfl (by omega) (fun c hc => (List.not_mem_nil hc).elim) (φ := LibOk) (fun w h => ⟨h, .inl rfl⟩) hr2
                rw [commitN_nil hGl (by omega), nextR_nil] at hr3 HC3
                rw [show errV 0 = .nilIface from rfl] at HC3
                unfold stT at HC3
                dsimp only [stC] at HC3
                simp only [CA] at HC3
                go_wp2_with (first | fail | (go_at_call 34; (with_reducible refine Does.use hO (HC3) tk_ ?_; clear hO; intro x9 w9 hO; dsimp only at hO ⊢; simp only [CA] at hO; ((try clear hf); have hf := fa_ hO); (obtain ⟨q7, b7⟩ := x9; dsimp only at hO ⊢; ((try clear hf); have hf := fa_ hO)))) | ((refine sy_ hO ?_); clear hO; intro w9 hO; (try dsimp only [List.set] at hO); ((try clear hf); have hf := fa_ hO)))
                all_goals try (exfalso; omega; done)
                obtain ⟨d4, h4, U4, he4, hf4, HK4⟩ := ckpt_q t b7 p q7 20 u3 d3 h3 R3 W3 U3 (by omega) hf3 hr3
                unfold stT at HK4
                dsimp only [stC] at HK4
                simp only [CA] at HK4
                have HOP4 := open_gen p 20 d4 h4 L [] 0 U4
                rw [rowsW_nil] at HOP4
                unfold stT at HOP4
                dsimp only [stC] at HOP4
                simp only [CA] at HOP4
                clear U2 U3 U4 hr2 hr3
                go_wp2_with (first | (go_at_call 36; (with_reducible refine Does.use hO (HK4) tk_ ?_; clear hO; intro x9 w9 hO; dsimp only at hO ⊢; simp only [CA] at hO; ((try clear hf); have hf := fa_ hO); rename Nat => q8)) | (go_at_call 32; (with_reducible refine Does.use hO (HOP4) tk_ ?_; clear hO; intro x9 w9 hO; dsimp only at hO ⊢; simp only [CA] at hO; ((try clear hf); have hf := fa_ hO); (obtain ⟨t2, q9, b9'⟩ := x9; dsimp only at hO ⊢; ((try clear hf); have hf := fa_ hO)))) | ((refine sy_ hO ?_); clear hO; intro w9 hO; (try dsimp only [List.set] at hO); ((try clear hf); have hf := fa_ hO)))
                have HR4 := (srows_does t2 b9' L (by omega) (.pointer (some ⟨p, 0, none⟩)) (.int .i64 (h4.ep : Int)) (.int .i64 (h4.si : Int)) (.int .i64 (h4.sz : Int)) (.int .i64 (h4.fi : Int)) (.pointer (some ⟨q9, 0, none⟩)))
                go_wp2_with (first | (go_at_call 38; (with_reducible refine Does.use hO (HR4) tk_ ?_; clear hO; intro x9 w9 hO; dsimp only at hO ⊢; simp only [CA] at hO; ((try clear hf); have hf := fa_ hO); (obtain ⟨xa2, xc2⟩ := x9; dsimp only at hO ⊢; replace hO := hO.rowImm (a := xa2) (n := L.length) (c := xc2) (xs := L.flatMap rwC) pk_; ((try clear hf); have hf := fa_ hO)))) | (go_at_call 25; (with_reducible apply Calls.mono (sameRows_any xa2 xa1 L.length xc2 xc1 L _ rfl (by omega) (Own.immOf (φ := fun w => ValsAt w xa2 (L.flatMap rwC)) hO pk_) (Own.immOf (φ := fun w => ValsAt w xa1 (L.flatMap rwC)) hO pk_)); rintro e8 w8 ⟨rfl, hx8⟩; replace hO := hO.ext hx8; clear hx8; dsimp only; ((try clear hf); have hf := fa_ hO))) | ((refine sy_ hO ?_); clear hO; intro w9 hO; (try dsimp only [List.set] at hO); ((try clear hf); have hf := fa_ hO)))
                all_goals try (exfalso; omega; done)
                go_ret
                exact ⟨rfl, hO.toExt⟩
              | false =>
                obtain ⟨d3, h3, R3, W3, u3, U3, hr3, he3, hf3, HC3⟩ := scommit_q t b6 p q6 20 u2 d2 h2 R2 W2 U2 (by omega) hf2 none 0 0 [] rfl (by omega) (fun c hc => (List.not_mem_nil hc).elim) (φ := LibOk) (fun w h => ⟨h, .inl rfl⟩) hr2
                rw [commitN_nil hGl (by omega), nextR_nil] at hr3 HC3
                rw [show errV 0 = .nilIface from rfl] at HC3
                unfold stT at HC3
                dsimp only [stC] at HC3
                simp only [CA] at HC3
                go_wp2_with (first | (go_at_call 25; (with_reducible apply Calls.mono (sameRows_any xa1 la L.length xc1 lc L _ rfl (by omega) (Own.immOf (φ := fun w => ValsAt w xa1 (L.flatMap rwC)) hO pk_) (Own.immOf (φ := fun w => ValsAt w la (L.flatMap rwC)) hO pk_)); rintro e8 w8 ⟨rfl, hx8⟩; replace hO := hO.ext hx8; clear hx8; dsimp only; ((try clear hf); have hf := fa_ hO))) | (go_at_call 34; (with_reducible refine Does.use hO (HC3) tk_ ?_; clear hO; intro x9 w9 hO; dsimp only at hO ⊢; simp only [CA] at hO; ((try clear hf); have hf := fa_ hO); (obtain ⟨q7, b7⟩ := x9; dsimp only at hO ⊢; ((try clear hf); have hf := fa_ hO)))) | ((refine sy_ hO ?_); clear hO; intro w9 hO; (try dsimp only [List.set] at hO); ((try clear hf); have hf := fa_ hO)))
                all_goals try (exfalso; omega; done)
                obtain ⟨d4, h4, U4, he4, hf4, HK4⟩ := ckpt_q t b7 p q7 20 u3 d3 h3 R3 W3 U3 (by omega) hf3 hr3
                unfold stT at HK4
                dsimp only [stC] at HK4
                simp only [CA] at HK4
                have HOP4 := open_gen p 20 d4 h4 L [] 0 U4
                rw [rowsW_nil] at HOP4
                unfold stT at HOP4
                dsimp only [stC] at HOP4
                simp only [CA] at HOP4
                clear U2 U3 U4 hr2 hr3
                go_wp2_with (first | (go_at_call 36; (with_reducible refine Does.use hO (HK4) tk_ ?_; clear hO; intro x9 w9 hO; dsimp only at hO ⊢; simp only [CA] at hO; ((try clear hf); have hf := fa_ hO); rename Nat => q8)) | (go_at_call 32; (with_reducible refine Does.use hO (HOP4) tk_ ?_; clear hO; intro x9 w9 hO; dsimp only at hO ⊢; simp only [CA] at hO; ((try clear hf); have hf := fa_ hO); (obtain ⟨t2, q9, b9'⟩ := x9; dsimp only at hO ⊢; ((try clear hf); have hf := fa_ hO)))) | ((refine sy_ hO ?_); clear hO; intro w9 hO; (try dsimp only [List.set] at hO); ((try clear hf); have hf := fa_ hO)))
                have HR4 := (srows_does t2 b9' L (by omega) (.pointer (some ⟨p, 0, none⟩)) (.int .i64 (h4.ep : Int)) (.int .i64 (h4.si : Int)) (.int .i64 (h4.sz : Int)) (.int .i64 (h4.fi : Int)) (.pointer (some ⟨q9, 0, none⟩)))
                go_wp2_with (first | (go_at_call 38; (with_reducible refine Does.use hO (HR4) tk_ ?_; clear hO; intro x9 w9 hO; dsimp only at hO ⊢; simp only [CA] at hO; ((try clear hf); have hf := fa_ hO); (obtain ⟨xa2, xc2⟩ := x9; dsimp only at hO ⊢; replace hO := hO.rowImm (a := xa2) (n := L.length) (c := xc2) (xs := L.flatMap rwC) pk_; ((try clear hf); have hf := fa_ hO)))) | (go_at_call 25; (with_reducible apply Calls.mono (sameRows_any xa2 xa1 L.length xc2 xc1 L _ rfl (by omega) (Own.immOf (φ := fun w => ValsAt w xa2 (L.flatMap rwC)) hO pk_) (Own.immOf (φ := fun w => ValsAt w xa1 (L.flatMap rwC)) hO pk_)); rintro e8 w8 ⟨rfl, hx8⟩; replace hO := hO.ext hx8; clear hx8; dsimp only; ((try clear hf); have hf := fa_ hO))) | ((refine sy_ hO ?_); clear hO; intro w9 hO; (try dsimp only [List.set] at hO); ((try clear hf); have hf := fa_ hO)))
                all_goals try (exfalso; omega; done)
                go_ret
                exact ⟨rfl, hO.toExt⟩
        · have h54i : ¬ (i : Int) % 5 = 4 := by omega
          have hRR := hR
          have hep2 : h.ep ≤ 2 * i + 2 := by omega
          clear hep hR
          go_wp2_with (first | ((refine sy_ hO ?_); clear hO; intro w9 hO; (try dsimp only [List.set] at hO); ((try clear hf); have hf := fa_ hO)))
          all_goals try (exfalso; omega; done)
          obtain ⟨c, d3, H3, T, hw3, HC⟩ := scommit_gen s b p q 20 u d h R0 W0 U (by omega) xa xch.length xc xch rfl (by omega) hsz (φ := TcArg (some ⟨b9, off, none⟩) D) (fun w h => ⟨h.1, hch w h⟩)
          rw [hRR] at hw3 HC
          replace hO := ((hO.pick (r := .imm (TcArg (some ⟨b9, off, none⟩) D)) pk_).again).imp (ψ := fun w => ValsAt w xa (chs xch)) hch
          replace hO := (hO.pick (r := .imm fun w => ValsAt w wa (R.flatMap rwC)) pk_).again
          replace hO := (hO.take (rs := [.imm fun w => ValsAt w wa (R.flatMap rwC), .imm fun w => ValsAt w xa (chs xch)]) tk_)
          simp only [List.cons_append, List.nil_append] at hO
          replace hO := hO.and
          ((try clear hf); have hf := fa_ hO)
          rcases hw3 with ⟨a1, a2, a3, rfl⟩ | ⟨rfl, a1, ⟨Ra, Wa, U3, hr3⟩, hep3, hfu3, rfl⟩ | ⟨rfl, a1, hne3, hDk, hon3, rfl⟩
          · have HN := fun w => number_any c w (by omega)
            have HI2 := Lib.hid (show StUp (20 + 50) d h R0 W0 u ∧ rowsW R0 W0 = R ∧ h.ep ≤ 2 * (i + 1) + 1 from ⟨U, hRR, by omega⟩)
            clear U hRR a3 hch hsz
            obtain ⟨N, rfl⟩ : ∃ N, c = N + 1 := ⟨c - 1, by omega⟩
            have hN10 : ((N + 1 : Nat) : Int) ≠ 10 := by omega
            rw [show errV (N + 1) = .iface 127 (.int .i64 ((N + 1 : Nat) : Int)) from rfl] at HC HN
            generalize N + 1 = N' at *
            unfold stT at HC
            dsimp only [stC] at HC
            simp only [CA] at HC
            go_wp2_with (first | (go_at_call 51; (with_reducible refine Does.use hO (HAP) tk_ ?_; clear hO; intro x9 w9 hO; dsimp only at hO ⊢; simp only [CA] at hO; ((try clear hf); have hf := fa_ hO); (obtain ⟨na, nc⟩ := x9; dsimp only at hO ⊢; replace hO := hO.rowImm (a := na) (n := R'.length) (c := nc) (xs := R'.flatMap rwC) pk_; have c9 := hc0 _ (Own.immOf (φ := TcArg (some ⟨b9, off, none⟩) D) hO pk_); ((try clear hf); have hf := fa_ hO)))) | (go_at_call 34; (with_reducible refine Does.use hO (HC) tk_ ?_; clear hO; intro x9 w9 hO; dsimp only at hO ⊢; simp only [CA] at hO; ((try clear hf); have hf := fa_ hO))) | (go_at_call 49; (with_reducible apply Calls.mono (HN _); rintro e8 w8 ⟨rfl, rfl⟩; dsimp only)) | ((refine sy_ hO ?_); clear hO; intro w9 hO; (try dsimp only [List.set] at hO); ((try clear hf); have hf := fa_ hO)))
            all_goals try (exfalso; omega; done)
            exact ⟨⟨i + 1, q, b, u, wc, lc, wa, la, h, R0, R, L, W0, d, rfl, rfl, by go_num, by omega, HI2, hLl, hO.cut sb_⟩, by simp [intOf]; omega⟩
          · rw [HR'.out] at hr3 HC
            generalize usedC u xch.length 20 = u3 at *
            have HI2 := Lib.hid (show StUp (20 + 50) d3 H3 Ra Wa u3 ∧ rowsW Ra Wa = R' ∧ H3.ep ≤ 2 * (i + 1) + 1 from ⟨U3, hr3, by omega⟩)
            have hLl' : R'.length ≤ 40 := by rw [← hr3]; exact U3.st.now.len
            clear U hRR hch hsz U3 hr3
            rw [show errV 0 = .nilIface from rfl] at HC
            unfold stT at HC
            dsimp only [stC] at HC
            simp only [CA] at HC
            go_wp2_with (first | (go_at_call 51; (with_reducible refine Does.use hO (HAP) tk_ ?_; clear hO; intro x9 w9 hO; dsimp only at hO ⊢; simp only [CA] at hO; ((try clear hf); have hf := fa_ hO); (obtain ⟨na, nc⟩ := x9; dsimp only at hO ⊢; replace hO := hO.rowImm (a := na) (n := R'.length) (c := nc) (xs := R'.flatMap rwC) pk_; have c9 := hc0 _ (Own.immOf (φ := TcArg (some ⟨b9, off, none⟩) D) hO pk_); ((try clear hf); have hf := fa_ hO)))) | (go_at_call 34; (with_reducible refine Does.use hO (HC) tk_ ?_; clear hO; intro x9 w9 hO; dsimp only at hO ⊢; simp only [CA] at hO; ((try clear hf); have hf := fa_ hO); (obtain ⟨q7, b7⟩ := x9; dsimp only at hO ⊢; ((try clear hf); have hf := fa_ hO)))) | ((refine sy_ hO ?_); clear hO; intro w9 hO; (try dsimp only [List.set] at hO); ((try clear hf); have hf := fa_ hO)))
            all_goals try (exfalso; omega; done)
            replace hO := (hO.pick (r := .imm fun w => ValsAt w na (R'.flatMap rwC)) pk_).again
            exact ⟨⟨i + 1, q7, b7, u3, nc, nc, na, na, H3, Ra, R', R', Wa, d3, rfl, rfl, by go_num, by omega, HI2, hLl', hO.cut sb_⟩, by simp [intOf]; omega⟩
          · have HN : ∀ w, Calls Tryz.prog 49 #[errV 10] w fun e w' => e = .returned (.int .i64 10) ∧ w' = w := fun w => number_any 10 w (by omega)
            rw [show errV 10 = .iface 127 (.int .i64 10) from rfl] at HC HN
            have hLl' : R'.length ≤ 40 := by have := (commitN_zero a1).2.2; rw [HR'.out] at this; omega
            rw [HR'.out] at hon3
            have hon : ∀ K : Int, StOn (20 + 50) (d3.restart K) 100 R ∨ StOn (20 + 50) (d3.restart K) 100 R' := fun K => (hon3 K).imp (fun x => x.mono (by omega)) fun x => x.mono (by omega)
            clear U hRR hch hsz hon3
            unfold stT at HC
            dsimp only [stC] at HC
            simp only [CA] at HC
            go_wp2_with (first | (go_at_call 51; (with_reducible refine Does.use hO (HAP) tk_ ?_; clear hO; intro x9 w9 hO; dsimp only at hO ⊢; simp only [CA] at hO; ((try clear hf); have hf := fa_ hO); (obtain ⟨na, nc⟩ := x9; dsimp only at hO ⊢; replace hO := hO.rowImm (a := na) (n := R'.length) (c := nc) (xs := R'.flatMap rwC) pk_; have c9 := hc0 _ (Own.immOf (φ := TcArg (some ⟨b9, off, none⟩) D) hO pk_); ((try clear hf); have hf := fa_ hO)))) | (go_at_call 34; (with_reducible refine Does.use hO (HC) tk_ ?_; clear hO; intro x9 w9 hO; dsimp only at hO ⊢; simp only [CA] at hO; ((try clear hf); have hf := fa_ hO))) | (go_at_call 49; (with_reducible apply Calls.mono (HN _); rintro e8 w8 ⟨rfl, rfl⟩; dsimp only)) | ((refine sy_ hO ?_); clear hO; intro w9 hO; (try dsimp only [List.set] at hO); ((try clear hf); have hf := fa_ hO)))
            all_goals try (exfalso; omega; done)
            have HRS := restart_does p d3 K hK0 hK1 (by rw [hDk.now]; omega) (by rw [hDk.now, hDk.kept]) (by have := hDk.wait; omega) (by rw [hDk.now]; exact hDk.ats)
            have hon2 := hon K
            clear hon hDk
            generalize Dk.restart d3 K = d2 at *
            rcases hon2 with ⟨h2, R2, W2, u2, U2, hr2, hep2, hf2⟩ | ⟨h2, R2, W2, u2, U2, hr2, hep2, hf2⟩
            · skip
              have HOP := open_gen p 20 d2 h2 R2 W2 u2 U2
              rw [hr2] at HOP
              unfold stT at HOP
              dsimp only [stC] at HOP
              simp only [CA] at HOP
              have hGl : R.length ≤ 40 := by rw [← hr2]; exact U2.st.now.len
              go_wp2_with (first | (go_at_call 52; (with_reducible refine Does.use hO (HRS) tk_ ?_; clear hO; intro x9 w9 hO; dsimp only at hO ⊢; simp only [CA] at hO; ((try clear hf); have hf := fa_ hO))) | (go_at_call 32; (with_reducible refine Does.use hO (HOP) tk_ ?_; clear hO; intro x9 w9 hO; dsimp only at hO ⊢; simp only [CA] at hO; ((try clear hf); have hf := fa_ hO); (obtain ⟨t, q6, b6⟩ := x9; dsimp only at hO ⊢; ((try clear hf); have hf := fa_ hO)))) | ((refine sy_ hO ?_); clear hO; intro w9 hO; (try dsimp only [List.set] at hO); ((try clear hf); have hf := fa_ hO)))
              have HR1 := (srows_does t b6 R (by omega) (.pointer (some ⟨p, 0, none⟩)) (.int .i64 (h2.ep : Int)) (.int .i64 (h2.si : Int)) (.int .i64 (h2.sz : Int)) (.int .i64 (h2.fi : Int)) (.pointer (some ⟨q6, 0, none⟩)))
              go_wp2_with (first | (go_at_call 38; (with_reducible refine Does.use hO (HR1) tk_ ?_; clear hO; intro x9 w9 hO; dsimp only at hO ⊢; simp only [CA] at hO; ((try clear hf); have hf := fa_ hO); (obtain ⟨xa1, xc1⟩ := x9; dsimp only at hO ⊢; replace hO := hO.rowImm (a := xa1) (n := R.length) (c := xc1) (xs := R.flatMap rwC) pk_; ((try clear hf); have hf := fa_ hO)))) | ((refine sy_ hO ?_); clear hO; intro w9 hO; (try dsimp only [List.set] at hO); ((try clear hf); have hf := fa_ hO)))
              obtain ⟨d3, h3, R3, W3, u3, U3, hr3, he3, hf3, HC3⟩ := scommit_q t b6 p q6 20 u2 d2 h2 R2 W2 U2 (by omega) hf2 none 0 0 [] rfl (by omega) (fun c hc => (List.not_mem_nil hc).elim) (φ := LibOk) (fun w h => ⟨h, .inl rfl⟩) hr2
              rw [commitN_nil hGl (by omega), nextR_nil] at hr3 HC3
              rw [show errV 0 = .nilIface from rfl] at HC3
              unfold stT at HC3
              dsimp only [stC] at HC3
              simp only [CA] at HC3
              go_wp2_with (first | (go_at_call 25; (with_reducible apply Calls.mono (sameRows_any xa1 wa R.length xc1 wc R _ rfl (by omega) (Own.immOf (φ := fun w => ValsAt w xa1 (R.flatMap rwC)) hO pk_) (Own.immOf (φ := fun w => ValsAt w wa (R.flatMap rwC)) hO pk_)); rintro e8 w8 ⟨rfl, hx8⟩; replace hO := hO.ext hx8; clear hx8; dsimp only; ((try clear hf); have hf := fa_ hO))) | (go_at_call 34; (with_reducible refine Does.use hO (HC3) tk_ ?_; clear hO; intro x9 w9 hO; dsimp only at hO ⊢; simp only [CA] at hO; ((try clear hf); have hf := fa_ hO); (obtain ⟨q7, b7⟩ := x9; dsimp only at hO ⊢; ((try clear hf); have hf := fa_ hO)))) | ((refine sy_ hO ?_); clear hO; intro w9 hO; (try dsimp only [List.set] at hO); ((try clear hf); have hf := fa_ hO)))
              all_goals try (exfalso; omega; done)
              obtain ⟨d4, h4, U4, he4, hf4, HK4⟩ := ckpt_q t b7 p q7 20 u3 d3 h3 R3 W3 U3 (by omega) hf3 hr3
              unfold stT at HK4
              dsimp only [stC] at HK4
              simp only [CA] at HK4
              have HOP4 := open_gen p 20 d4 h4 R [] 0 U4
              rw [rowsW_nil] at HOP4
              unfold stT at HOP4
              dsimp only [stC] at HOP4
              simp only [CA] at HOP4
              clear U2 U3 U4 hr2 hr3
              go_wp2_with (first | (go_at_call 36; (with_reducible refine Does.use hO (HK4) tk_ ?_; clear hO; intro x9 w9 hO; dsimp only at hO ⊢; simp only [CA] at hO; ((try clear hf); have hf := fa_ hO); rename Nat => q8)) | (go_at_call 32; (with_reducible refine Does.use hO (HOP4) tk_ ?_; clear hO; intro x9 w9 hO; dsimp only at hO ⊢; simp only [CA] at hO; ((try clear hf); have hf := fa_ hO); (obtain ⟨t2, q9, b9'⟩ := x9; dsimp only at hO ⊢; ((try clear hf); have hf := fa_ hO)))) | ((refine sy_ hO ?_); clear hO; intro w9 hO; (try dsimp only [List.set] at hO); ((try clear hf); have hf := fa_ hO)))
              have HR4 := (srows_does t2 b9' R (by omega) (.pointer (some ⟨p, 0, none⟩)) (.int .i64 (h4.ep : Int)) (.int .i64 (h4.si : Int)) (.int .i64 (h4.sz : Int)) (.int .i64 (h4.fi : Int)) (.pointer (some ⟨q9, 0, none⟩)))
              go_wp2_with (first | (go_at_call 38; (with_reducible refine Does.use hO (HR4) tk_ ?_; clear hO; intro x9 w9 hO; dsimp only at hO ⊢; simp only [CA] at hO; ((try clear hf); have hf := fa_ hO); (obtain ⟨xa2, xc2⟩ := x9; dsimp only at hO ⊢; replace hO := hO.rowImm (a := xa2) (n := R.length) (c := xc2) (xs := R.flatMap rwC) pk_; ((try clear hf); have hf := fa_ hO)))) | (go_at_call 25; (with_reducible apply Calls.mono (sameRows_any xa2 xa1 R.length xc2 xc1 R _ rfl (by omega) (Own.immOf (φ := fun w => ValsAt w xa2 (R.flatMap rwC)) hO pk_) (Own.immOf (φ := fun w => ValsAt w xa1 (R.flatMap rwC)) hO pk_)); rintro e8 w8 ⟨rfl, hx8⟩; replace hO := hO.ext hx8; clear hx8; dsimp only; ((try clear hf); have hf := fa_ hO))) | ((refine sy_ hO ?_); clear hO; intro w9 hO; (try dsimp only [List.set] at hO); ((try clear hf); have hf := fa_ hO)))
              all_goals try (exfalso; omega; done)
              go_ret
              exact ⟨rfl, hO.toExt⟩
            · skip
              have HOP := open_gen p 20 d2 h2 R2 W2 u2 U2
              rw [hr2] at HOP
              unfold stT at HOP
              dsimp only [stC] at HOP
              simp only [CA] at HOP
              have hGl : R'.length ≤ 40 := by rw [← hr2]; exact U2.st.now.len
              go_wp2_with (first | (go_at_call 52; (with_reducible refine Does.use hO (HRS) tk_ ?_; clear hO; intro x9 w9 hO; dsimp only at hO ⊢; simp only [CA] at hO; ((try clear hf); have hf := fa_ hO))) | (go_at_call 32; (with_reducible refine Does.use hO (HOP) tk_ ?_; clear hO; intro x9 w9 hO; dsimp only at hO ⊢; simp only [CA] at hO; ((try clear hf); have hf := fa_ hO); (obtain ⟨t, q6, b6⟩ := x9; dsimp only at hO ⊢; ((try clear hf); have hf := fa_ hO)))) | ((refine sy_ hO ?_); clear hO; intro w9 hO; (try dsimp only [List.set] at hO); ((try clear hf); have hf := fa_ hO)))
              have HR1 := (srows_does t b6 R' (by omega) (.pointer (some ⟨p, 0, none⟩)) (.int .i64 (h2.ep : Int)) (.int .i64 (h2.si : Int)) (.int .i64 (h2.sz : Int)) (.int .i64 (h2.fi : Int)) (.pointer (some ⟨q6, 0, none⟩)))
              go_wp2_with (first | (go_at_call 38; (with_reducible refine Does.use hO (HR1) tk_ ?_; clear hO; intro x9 w9 hO; dsimp only at hO ⊢; simp only [CA] at hO; ((try clear hf); have hf := fa_ hO); (obtain ⟨xa1, xc1⟩ := x9; dsimp only at hO ⊢; replace hO := hO.rowImm (a := xa1) (n := R'.length) (c := xc1) (xs := R'.flatMap rwC) pk_; ((try clear hf); have hf := fa_ hO)))) | ((refine sy_ hO ?_); clear hO; intro w9 hO; (try dsimp only [List.set] at hO); ((try clear hf); have hf := fa_ hO)))
              obtain ⟨B1, hB1, HSB⟩ := sameRows_bool xa1 wa R'.length xc1 R.length wc R' R _ rfl rfl (by omega) (by omega) (Own.immOf (φ := fun w => ValsAt w xa1 (R'.flatMap rwC)) hO pk_) (Own.immOf (φ := fun w => ValsAt w wa (R.flatMap rwC)) hO pk_)
              refine Calls.mono HSB ?_
              rintro e8 w8 ⟨rfl, hx8⟩
              replace hO := hO.ext hx8
              clear hx8 HSB hB1
              dsimp only
              ((try clear hf); have hf := fa_ hO)
              cases B1 with
              | true =>
                obtain ⟨d3, h3, R3, W3, u3, U3, hr3, he3, hf3, HC3⟩ := scommit_q t b6 p q6 20 u2 d2 h2 R2 W2 U2 (by omega) hf2 none 0 0 [] rfl (by omega) (fun c hc => (List.not_mem_nil hc).elim) (φ := LibOk) (fun w h => ⟨h, .inl rfl⟩) hr2
                rw [commitN_nil hGl (by omega), nextR_nil] at hr3 HC3
                rw [show errV 0 = .nilIface from rfl] at HC3
                unfold stT at HC3
                dsimp only [stC] at HC3
                simp only [CA] at HC3
                go_wp2_with (first | fail | (go_at_call 34; (with_reducible refine Does.use hO (HC3) tk_ ?_; clear hO; intro x9 w9 hO; dsimp only at hO ⊢; simp only [CA] at hO; ((try clear hf); have hf := fa_ hO); (obtain ⟨q7, b7⟩ := x9; dsimp only at hO ⊢; ((try clear hf); have hf := fa_ hO)))) | ((refine sy_ hO ?_); clear hO; intro w9 hO; (try dsimp only [List.set] at hO); ((try clear hf); have hf := fa_ hO)))
                all_goals try (exfalso; omega; done)
                obtain ⟨d4, h4, U4, he4, hf4, HK4⟩ := ckpt_q t b7 p q7 20 u3 d3 h3 R3 W3 U3 (by omega) hf3 hr3
                unfold stT at HK4
                dsimp only [stC] at HK4
                simp only [CA] at HK4
                have HOP4 := open_gen p 20 d4 h4 R' [] 0 U4
                rw [rowsW_nil] at HOP4
                unfold stT at HOP4
                dsimp only [stC] at HOP4
                simp only [CA] at HOP4
                clear U2 U3 U4 hr2 hr3
                go_wp2_with (first | (go_at_call 36; (with_reducible refine Does.use hO (HK4) tk_ ?_; clear hO; intro x9 w9 hO; dsimp only at hO ⊢; simp only [CA] at hO; ((try clear hf); have hf := fa_ hO); rename Nat => q8)) | (go_at_call 32; (with_reducible refine Does.use hO (HOP4) tk_ ?_; clear hO; intro x9 w9 hO; dsimp only at hO ⊢; simp only [CA] at hO; ((try clear hf); have hf := fa_ hO); (obtain ⟨t2, q9, b9'⟩ := x9; dsimp only at hO ⊢; ((try clear hf); have hf := fa_ hO)))) | ((refine sy_ hO ?_); clear hO; intro w9 hO; (try dsimp only [List.set] at hO); ((try clear hf); have hf := fa_ hO)))
                have HR4 := (srows_does t2 b9' R' (by omega) (.pointer (some ⟨p, 0, none⟩)) (.int .i64 (h4.ep : Int)) (.int .i64 (h4.si : Int)) (.int .i64 (h4.sz : Int)) (.int .i64 (h4.fi : Int)) (.pointer (some ⟨q9, 0, none⟩)))
                go_wp2_with (first | (go_at_call 38; (with_reducible refine Does.use hO (HR4) tk_ ?_; clear hO; intro x9 w9 hO; dsimp only at hO ⊢; simp only [CA] at hO; ((try clear hf); have hf := fa_ hO); (obtain ⟨xa2, xc2⟩ := x9; dsimp only at hO ⊢; replace hO := hO.rowImm (a := xa2) (n := R'.length) (c := xc2) (xs := R'.flatMap rwC) pk_; ((try clear hf); have hf := fa_ hO)))) | (go_at_call 25; (with_reducible apply Calls.mono (sameRows_any xa2 xa1 R'.length xc2 xc1 R' _ rfl (by omega) (Own.immOf (φ := fun w => ValsAt w xa2 (R'.flatMap rwC)) hO pk_) (Own.immOf (φ := fun w => ValsAt w xa1 (R'.flatMap rwC)) hO pk_)); rintro e8 w8 ⟨rfl, hx8⟩; replace hO := hO.ext hx8; clear hx8; dsimp only; ((try clear hf); have hf := fa_ hO))) | ((refine sy_ hO ?_); clear hO; intro w9 hO; (try dsimp only [List.set] at hO); ((try clear hf); have hf := fa_ hO)))
                all_goals try (exfalso; omega; done)
                go_ret
                exact ⟨rfl, hO.toExt⟩
              | false =>
                obtain ⟨d3, h3, R3, W3, u3, U3, hr3, he3, hf3, HC3⟩ := scommit_q t b6 p q6 20 u2 d2 h2 R2 W2 U2 (by omega) hf2 none 0 0 [] rfl (by omega) (fun c hc => (List.not_mem_nil hc).elim) (φ := LibOk) (fun w h => ⟨h, .inl rfl⟩) hr2
                rw [commitN_nil hGl (by omega), nextR_nil] at hr3 HC3
                rw [show errV 0 = .nilIface from rfl] at HC3
                unfold stT at HC3
                dsimp only [stC] at HC3
                simp only [CA] at HC3
                go_wp2_with (first | (go_at_call 25; (with_reducible apply Calls.mono (sameRows_any xa1 na R'.length xc1 nc R' _ rfl (by omega) (Own.immOf (φ := fun w => ValsAt w xa1 (R'.flatMap rwC)) hO pk_) (Own.immOf (φ := fun w => ValsAt w na (R'.flatMap rwC)) hO pk_)); rintro e8 w8 ⟨rfl, hx8⟩; replace hO := hO.ext hx8; clear hx8; dsimp only; ((try clear hf); have hf := fa_ hO))) | (go_at_call 34; (with_reducible refine Does.use hO (HC3) tk_ ?_; clear hO; intro x9 w9 hO; dsimp only at hO ⊢; simp only [CA] at hO; ((try clear hf); have hf := fa_ hO); (obtain ⟨q7, b7⟩ := x9; dsimp only at hO ⊢; ((try clear hf); have hf := fa_ hO)))) | ((refine sy_ hO ?_); clear hO; intro w9 hO; (try dsimp only [List.set] at hO); ((try clear hf); have hf := fa_ hO)))
                all_goals try (exfalso; omega; done)
                obtain ⟨d4, h4, U4, he4, hf4, HK4⟩ := ckpt_q t b7 p q7 20 u3 d3 h3 R3 W3 U3 (by omega) hf3 hr3
                unfold stT at HK4
                dsimp only [stC] at HK4
                simp only [CA] at HK4
                have HOP4 := open_gen p 20 d4 h4 R' [] 0 U4
                rw [rowsW_nil] at HOP4
                unfold stT at HOP4
                dsimp only [stC] at HOP4
                simp only [CA] at HOP4
                clear U2 U3 U4 hr2 hr3
                go_wp2_with (first | (go_at_call 36; (with_reducible refine Does.use hO (HK4) tk_ ?_; clear hO; intro x9 w9 hO; dsimp only at hO ⊢; simp only [CA] at hO; ((try clear hf); have hf := fa_ hO); rename Nat => q8)) | (go_at_call 32; (with_reducible refine Does.use hO (HOP4) tk_ ?_; clear hO; intro x9 w9 hO; dsimp only at hO ⊢; simp only [CA] at hO; ((try clear hf); have hf := fa_ hO); (obtain ⟨t2, q9, b9'⟩ := x9; dsimp only at hO ⊢; ((try clear hf); have hf := fa_ hO)))) | ((refine sy_ hO ?_); clear hO; intro w9 hO; (try dsimp only [List.set] at hO); ((try clear hf); have hf := fa_ hO)))
                have HR4 := (srows_does t2 b9' R' (by omega) (.pointer (some ⟨p, 0, none⟩)) (.int .i64 (h4.ep : Int)) (.int .i64 (h4.si : Int)) (.int .i64 (h4.sz : Int)) (.int .i64 (h4.fi : Int)) (.pointer (some ⟨q9, 0, none⟩)))
                go_wp2_with (first | (go_at_call 38; (with_reducible refine Does.use hO (HR4) tk_ ?_; clear hO; intro x9 w9 hO; dsimp only at hO ⊢; simp only [CA] at hO; ((try clear hf); have hf := fa_ hO); (obtain ⟨xa2, xc2⟩ := x9; dsimp only at hO ⊢; replace hO := hO.rowImm (a := xa2) (n := R'.length) (c := xc2) (xs := R'.flatMap rwC) pk_; ((try clear hf); have hf := fa_ hO)))) | (go_at_call 25; (with_reducible apply Calls.mono (sameRows_any xa2 xa1 R'.length xc2 xc1 R' _ rfl (by omega) (Own.immOf (φ := fun w => ValsAt w xa2 (R'.flatMap rwC)) hO pk_) (Own.immOf (φ := fun w => ValsAt w xa1 (R'.flatMap rwC)) hO pk_)); rintro e8 w8 ⟨rfl, hx8⟩; replace hO := hO.ext hx8; clear hx8; dsimp only; ((try clear hf); have hf := fa_ hO))) | ((refine sy_ hO ?_); clear hO; intro w9 hO; (try dsimp only [List.set] at hO); ((try clear hf); have hf := fa_ hO)))
                all_goals try (exfalso; omega; done)
                go_ret
                exact ⟨rfl, hO.toExt⟩
      · obtain rfl : i = n := by omega
        have hDk : DkOk (20 + 50) 2000 d := U.ok.mono (by omega)
        have hon : ∀ K : Int, StOn (20 + 50) (d.restart K) 100 R ∨ StOn (20 + 50) (d.restart K) 100 L := fun K => .inl (hR ▸ (U.re K).mono (by omega))
        clear U hR
        have HRS := restart_does p d K hK0 hK1 (by rw [hDk.now]; omega) (by rw [hDk.now, hDk.kept]) (by have := hDk.wait; omega) (by rw [hDk.now]; exact hDk.ats)
        have hon2 := hon K
        clear hon hDk
        generalize Dk.restart d K = d2 at *
        rcases hon2 with ⟨h2, R2, W2, u2, U2, hr2, hep2, hf2⟩ | ⟨h2, R2, W2, u2, U2, hr2, hep2, hf2⟩
        · skip
          have HOP := open_gen p 20 d2 h2 R2 W2 u2 U2
          rw [hr2] at HOP
          unfold stT at HOP
          dsimp only [stC] at HOP
          simp only [CA] at HOP
          have hGl : R.length ≤ 40 := by rw [← hr2]; exact U2.st.now.len
          go_wp2_with (first | (go_at_call 52; (with_reducible refine Does.use hO (HRS) tk_ ?_; clear hO; intro x9 w9 hO; dsimp only at hO ⊢; simp only [CA] at hO; ((try clear hf); have hf := fa_ hO))) | (go_at_call 32; (with_reducible refine Does.use hO (HOP) tk_ ?_; clear hO; intro x9 w9 hO; dsimp only at hO ⊢; simp only [CA] at hO; ((try clear hf); have hf := fa_ hO); (obtain ⟨t, q6, b6⟩ := x9; dsimp only at hO ⊢; ((try clear hf); have hf := fa_ hO)))) | ((refine sy_ hO ?_); clear hO; intro w9 hO; (try dsimp only [List.set] at hO); ((try clear hf); have hf := fa_ hO)))
          have HR1 := (srows_does t b6 R (by omega) (.pointer (some ⟨p, 0, none⟩)) (.int .i64 (h2.ep : Int)) (.int .i64 (h2.si : Int)) (.int .i64 (h2.sz : Int)) (.int .i64 (h2.fi : Int)) (.pointer (some ⟨q6, 0, none⟩)))
          go_wp2_with (first | (go_at_call 38; (with_reducible refine Does.use hO (HR1) tk_ ?_; clear hO; intro x9 w9 hO; dsimp only at hO ⊢; simp only [CA] at hO; ((try clear hf); have hf := fa_ hO); (obtain ⟨xa1, xc1⟩ := x9; dsimp only at hO ⊢; replace hO := hO.rowImm (a := xa1) (n := R.length) (c := xc1) (xs := R.flatMap rwC) pk_; ((try clear hf); have hf := fa_ hO)))) | ((refine sy_ hO ?_); clear hO; intro w9 hO; (try dsimp only [List.set] at hO); ((try clear hf); have hf := fa_ hO)))
          obtain ⟨d3, h3, R3, W3, u3, U3, hr3, he3, hf3, HC3⟩ := scommit_q t b6 p q6 20 u2 d2 h2 R2 W2 U2 (by omega) hf2 none 0 0 [] rfl (by omega) (fun c hc => (List.not_mem_nil hc).elim) (φ := LibOk) (fun w h => ⟨h, .inl rfl⟩) hr2
          rw [commitN_nil hGl (by omega), nextR_nil] at hr3 HC3
          rw [show errV 0 = .nilIface from rfl] at HC3
          unfold stT at HC3
          dsimp only [stC] at HC3
          simp only [CA] at HC3
          go_wp2_with (first | (go_at_call 25; (with_reducible apply Calls.mono (sameRows_any xa1 wa R.length xc1 wc R _ rfl (by omega) (Own.immOf (φ := fun w => ValsAt w xa1 (R.flatMap rwC)) hO pk_) (Own.immOf (φ := fun w => ValsAt w wa (R.flatMap rwC)) hO pk_)); rintro e8 w8 ⟨rfl, hx8⟩; replace hO := hO.ext hx8; clear hx8; dsimp only; ((try clear hf); have hf := fa_ hO))) | (go_at_call 34; (with_reducible refine Does.use hO (HC3) tk_ ?_; clear hO; intro x9 w9 hO; dsimp only at hO ⊢; simp only [CA] at hO; ((try clear hf); have hf := fa_ hO); (obtain ⟨q7, b7⟩ := x9; dsimp only at hO ⊢; ((try clear hf); have hf := fa_ hO)))) | ((refine sy_ hO ?_); clear hO; intro w9 hO; (try dsimp only [List.set] at hO); ((try clear hf); have hf := fa_ hO)))
          all_goals try (exfalso; omega; done)
          obtain ⟨d4, h4, U4, he4, hf4, HK4⟩ := ckpt_q t b7 p q7 20 u3 d3 h3 R3 W3 U3 (by omega) hf3 hr3
          unfold stT at HK4
          dsimp only [stC] at HK4
          simp only [CA] at HK4
          have HOP4 := open_gen p 20 d4 h4 R [] 0 U4
          rw [rowsW_nil] at HOP4
          unfold stT at HOP4
          dsimp only [stC] at HOP4
          simp only [CA] at HOP4
          clear U2 U3 U4 hr2 hr3
          go_wp2_with (first | (go_at_call 36; (with_reducible refine Does.use hO (HK4) tk_ ?_; clear hO; intro x9 w9 hO; dsimp only at hO ⊢; simp only [CA] at hO; ((try clear hf); have hf := fa_ hO); rename Nat => q8)) | (go_at_call 32; (with_reducible refine Does.use hO (HOP4) tk_ ?_; clear hO; intro x9 w9 hO; dsimp only at hO ⊢; simp only [CA] at hO; ((try clear hf); have hf := fa_ hO); (obtain ⟨t2, q9, b9'⟩ := x9; dsimp only at hO ⊢; ((try clear hf); have hf := fa_ hO)))) | ((refine sy_ hO ?_); clear hO; intro w9 hO; (try dsimp only [List.set] at hO); ((try clear hf); have hf := fa_ hO)))
          have HR4 := (srows_does t2 b9' R (by omega) (.pointer (some ⟨p, 0, none⟩)) (.int .i64 (h4.ep : Int)) (.int .i64 (h4.si : Int)) (.int .i64 (h4.sz : Int)) (.int .i64 (h4.fi : Int)) (.pointer (some ⟨q9, 0, none⟩)))
          go_wp2_with (first | (go_at_call 38; (with_reducible refine Does.use hO (HR4) tk_ ?_; clear hO; intro x9 w9 hO; dsimp only at hO ⊢; simp only [CA] at hO; ((try clear hf); have hf := fa_ hO); (obtain ⟨xa2, xc2⟩ := x9; dsimp only at hO ⊢; replace hO := hO.rowImm (a := xa2) (n := R.length) (c := xc2) (xs := R.flatMap rwC) pk_; ((try clear hf); have hf := fa_ hO)))) | (go_at_call 25; (with_reducible apply Calls.mono (sameRows_any xa2 xa1 R.length xc2 xc1 R _ rfl (by omega) (Own.immOf (φ := fun w => ValsAt w xa2 (R.flatMap rwC)) hO pk_) (Own.immOf (φ := fun w => ValsAt w xa1 (R.flatMap rwC)) hO pk_)); rintro e8 w8 ⟨rfl, hx8⟩; replace hO := hO.ext hx8; clear hx8; dsimp only; ((try clear hf); have hf := fa_ hO))) | ((refine sy_ hO ?_); clear hO; intro w9 hO; (try dsimp only [List.set] at hO); ((try clear hf); have hf := fa_ hO)))
          all_goals try (exfalso; omega; done)
          go_ret
          exact ⟨rfl, hO.toExt⟩
        · skip
          have HOP := open_gen p 20 d2 h2 R2 W2 u2 U2
          rw [hr2] at HOP
          unfold stT at HOP
          dsimp only [stC] at HOP
          simp only [CA] at HOP
          have hGl : L.length ≤ 40 := by rw [← hr2]; exact U2.st.now.len
          go_wp2_with (first | (go_at_call 52; (with_reducible refine Does.use hO (HRS) tk_ ?_; clear hO; intro x9 w9 hO; dsimp only at hO ⊢; simp only [CA] at hO; ((try clear hf); have hf := fa_ hO))) | (go_at_call 32; (with_reducible refine Does.use hO (HOP) tk_ ?_; clear hO; intro x9 w9 hO; dsimp only at hO ⊢; simp only [CA] at hO; ((try clear hf); have hf := fa_ hO); (obtain ⟨t, q6, b6⟩ := x9; dsimp only at hO ⊢; ((try clear hf); have hf := fa_ hO)))) | ((refine sy_ hO ?_); clear hO; intro w9 hO; (try dsimp only [List.set] at hO); ((try clear hf); have hf := fa_ hO)))
          have HR1 := (srows_does t b6 L (by omega) (.pointer (some ⟨p, 0, none⟩)) (.int .i64 (h2.ep : Int)) (.int .i64 (h2.si : Int)) (.int .i64 (h2.sz : Int)) (.int .i64 (h2.fi : Int)) (.pointer (some ⟨q6, 0, none⟩)))
          go_wp2_with (first | (go_at_call 38; (with_reducible refine Does.use hO (HR1) tk_ ?_; clear hO; intro x9 w9 hO; dsimp only at hO ⊢; simp only [CA] at hO; ((try clear hf); have hf := fa_ hO); (obtain ⟨xa1, xc1⟩ := x9; dsimp only at hO ⊢; replace hO := hO.rowImm (a := xa1) (n := L.length) (c := xc1) (xs := L.flatMap rwC) pk_; ((try clear hf); have hf := fa_ hO)))) | ((refine sy_ hO ?_); clear hO; intro w9 hO; (try dsimp only [List.set] at hO); ((try clear hf); have hf := fa_ hO)))
          obtain ⟨B1, hB1, HSB⟩ := sameRows_bool xa1 wa L.length xc1 R.length wc L R _ rfl rfl (by omega) (by omega) (Own.immOf (φ := fun w => ValsAt w xa1 (L.flatMap rwC)) hO pk_) (Own.immOf (φ := fun w => ValsAt w wa (R.flatMap rwC)) hO pk_)
          refine Calls.mono HSB ?_
          rintro e8 w8 ⟨rfl, hx8⟩
          replace hO := hO.ext hx8
          clear hx8 HSB hB1
          dsimp only
          ((try clear hf); have hf := fa_ hO)
          cases B1 with
          | true =>
            obtain ⟨d3, h3, R3, W3, u3, U3, hr3, he3, hf3, HC3⟩ := scommit_q t b6 p q6 20 u2 d2 h2 R2 W2 U2 (by omega) hf2 none 0 0 [] rfl (by omega) (fun c hc => (List.not_mem_nil hc).elim) (φ := LibOk) (fun w h => ⟨h, .inl rfl⟩) hr2
            rw [commitN_nil hGl (by omega), nextR_nil] at hr3 HC3
            rw [show errV 0 = .nilIface from rfl] at HC3
            unfold stT at HC3
            dsimp only [stC] at HC3
            simp only [CA] at HC3
            go_wp2_with (first | fail | (go_at_call 34; (with_reducible refine Does.use hO (HC3) tk_ ?_; clear hO; intro x9 w9 hO; dsimp only at hO ⊢; simp only [CA] at hO; ((try clear hf); have hf := fa_ hO); (obtain ⟨q7, b7⟩ := x9; dsimp only at hO ⊢; ((try clear hf); have hf := fa_ hO)))) | ((refine sy_ hO ?_); clear hO; intro w9 hO; (try dsimp only [List.set] at hO); ((try clear hf); have hf := fa_ hO)))
            all_goals try (exfalso; omega; done)
            obtain ⟨d4, h4, U4, he4, hf4, HK4⟩ := ckpt_q t b7 p q7 20 u3 d3 h3 R3 W3 U3 (by omega) hf3 hr3
            unfold stT at HK4
            dsimp only [stC] at HK4
            simp only [CA] at HK4
            have HOP4 := open_gen p 20 d4 h4 L [] 0 U4
            rw [rowsW_nil] at HOP4
            unfold stT at HOP4
            dsimp only [stC] at HOP4
            simp only [CA] at HOP4
            clear U2 U3 U4 hr2 hr3
            go_wp2_with (first | (go_at_call 36; (with_reducible refine Does.use hO (HK4) tk_ ?_; clear hO; intro x9 w9 hO; dsimp only at hO ⊢; simp only [CA] at hO; ((try clear hf); have hf := fa_ hO); rename Nat => q8)) | (go_at_call 32; (with_reducible refine Does.use hO (HOP4) tk_ ?_; clear hO; intro x9 w9 hO; dsimp only at hO ⊢; simp only [CA] at hO; ((try clear hf); have hf := fa_ hO); (obtain ⟨t2, q9, b9'⟩ := x9; dsimp only at hO ⊢; ((try clear hf); have hf := fa_ hO)))) | ((refine sy_ hO ?_); clear hO; intro w9 hO; (try dsimp only [List.set] at hO); ((try clear hf); have hf := fa_ hO)))
            have HR4 := (srows_does t2 b9' L (by omega) (.pointer (some ⟨p, 0, none⟩)) (.int .i64 (h4.ep : Int)) (.int .i64 (h4.si : Int)) (.int .i64 (h4.sz : Int)) (.int .i64 (h4.fi : Int)) (.pointer (some ⟨q9, 0, none⟩)))
            go_wp2_with (first | (go_at_call 38; (with_reducible refine Does.use hO (HR4) tk_ ?_; clear hO; intro x9 w9 hO; dsimp only at hO ⊢; simp only [CA] at hO; ((try clear hf); have hf := fa_ hO); (obtain ⟨xa2, xc2⟩ := x9; dsimp only at hO ⊢; replace hO := hO.rowImm (a := xa2) (n := L.length) (c := xc2) (xs := L.flatMap rwC) pk_; ((try clear hf); have hf := fa_ hO)))) | (go_at_call 25; (with_reducible apply Calls.mono (sameRows_any xa2 xa1 L.length xc2 xc1 L _ rfl (by omega) (Own.immOf (φ := fun w => ValsAt w xa2 (L.flatMap rwC)) hO pk_) (Own.immOf (φ := fun w => ValsAt w xa1 (L.flatMap rwC)) hO pk_)); rintro e8 w8 ⟨rfl, hx8⟩; replace hO := hO.ext hx8; clear hx8; dsimp only; ((try clear hf); have hf := fa_ hO))) | ((refine sy_ hO ?_); clear hO; intro w9 hO; (try dsimp only [List.set] at hO); ((try clear hf); have hf := fa_ hO)))
            all_goals try (exfalso; omega; done)
            go_ret
            exact ⟨rfl, hO.toExt⟩
          | false =>
            obtain ⟨d3, h3, R3, W3, u3, U3, hr3, he3, hf3, HC3⟩ := scommit_q t b6 p q6 20 u2 d2 h2 R2 W2 U2 (by omega) hf2 none 0 0 [] rfl (by omega) (fun c hc => (List.not_mem_nil hc).elim) (φ := LibOk) (fun w h => ⟨h, .inl rfl⟩) hr2
            rw [commitN_nil hGl (by omega), nextR_nil] at hr3 HC3
            rw [show errV 0 = .nilIface from rfl] at HC3
            unfold stT at HC3
            dsimp only [stC] at HC3
            simp only [CA] at HC3
            go_wp2_with (first | (go_at_call 25; (with_reducible apply Calls.mono (sameRows_any xa1 la L.length xc1 lc L _ rfl (by omega) (Own.immOf (φ := fun w => ValsAt w xa1 (L.flatMap rwC)) hO pk_) (Own.immOf (φ := fun w => ValsAt w la (L.flatMap rwC)) hO pk_)); rintro e8 w8 ⟨rfl, hx8⟩; replace hO := hO.ext hx8; clear hx8; dsimp only; ((try clear hf); have hf := fa_ hO))) | (go_at_call 34; (with_reducible refine Does.use hO (HC3) tk_ ?_; clear hO; intro x9 w9 hO; dsimp only at hO ⊢; simp only [CA] at hO; ((try clear hf); have hf := fa_ hO); (obtain ⟨q7, b7⟩ := x9; dsimp only at hO ⊢; ((try clear hf); have hf := fa_ hO)))) | ((refine sy_ hO ?_); clear hO; intro w9 hO; (try dsimp only [List.set] at hO); ((try clear hf); have hf := fa_ hO)))
            all_goals try (exfalso; omega; done)
            obtain ⟨d4, h4, U4, he4, hf4, HK4⟩ := ckpt_q t b7 p q7 20 u3 d3 h3 R3 W3 U3 (by omega) hf3 hr3
            unfold stT at HK4
            dsimp only [stC] at HK4
            simp only [CA] at HK4
            have HOP4 := open_gen p 20 d4 h4 L [] 0 U4
            rw [rowsW_nil] at HOP4
            unfold stT at HOP4
            dsimp only [stC] at HOP4
            simp only [CA] at HOP4
            clear U2 U3 U4 hr2 hr3
            go_wp2_with (first | (go_at_call 36; (with_reducible refine Does.use hO (HK4) tk_ ?_; clear hO; intro x9 w9 hO; dsimp only at hO ⊢; simp only [CA] at hO; ((try clear hf); have hf := fa_ hO); rename Nat => q8)) | (go_at_call 32; (with_reducible refine Does.use hO (HOP4) tk_ ?_; clear hO; intro x9 w9 hO; dsimp only at hO ⊢; simp only [CA] at hO; ((try clear hf); have hf := fa_ hO); (obtain ⟨t2, q9, b9'⟩ := x9; dsimp only at hO ⊢; ((try clear hf); have hf := fa_ hO)))) | ((refine sy_ hO ?_); clear hO; intro w9 hO; (try dsimp only [List.set] at hO); ((try clear hf); have hf := fa_ hO)))
            have HR4 := (srows_does t2 b9' L (by omega) (.pointer (some ⟨p, 0, none⟩)) (.int .i64 (h4.ep : Int)) (.int .i64 (h4.si : Int)) (.int .i64 (h4.sz : Int)) (.int .i64 (h4.fi : Int)) (.pointer (some ⟨q9, 0, none⟩)))
            go_wp2_with (first | (go_at_call 38; (with_reducible refine Does.use hO (HR4) tk_ ?_; clear hO; intro x9 w9 hO; dsimp only at hO ⊢; simp only [CA] at hO; ((try clear hf); have hf := fa_ hO); (obtain ⟨xa2, xc2⟩ := x9; dsimp only at hO ⊢; replace hO := hO.rowImm (a := xa2) (n := L.length) (c := xc2) (xs := L.flatMap rwC) pk_; ((try clear hf); have hf := fa_ hO)))) | (go_at_call 25; (with_reducible apply Calls.mono (sameRows_any xa2 xa1 L.length xc2 xc1 L _ rfl (by omega) (Own.immOf (φ := fun w => ValsAt w xa2 (L.flatMap rwC)) hO pk_) (Own.immOf (φ := fun w => ValsAt w xa1 (L.flatMap rwC)) hO pk_)); rintro e8 w8 ⟨rfl, hx8⟩; replace hO := hO.ext hx8; clear hx8; dsimp only; ((try clear hf); have hf := fa_ hO))) | ((refine sy_ hO ?_); clear hO; intro w9 hO; (try dsimp only [List.set] at hO); ((try clear hf); have hf := fa_ hO)))
            all_goals try (exfalso; omega; done)
            go_ret
            exact ⟨rfl, hO.toExt⟩
end Go.Proofs.YtmknhibaoopjjaaGreatDoor
