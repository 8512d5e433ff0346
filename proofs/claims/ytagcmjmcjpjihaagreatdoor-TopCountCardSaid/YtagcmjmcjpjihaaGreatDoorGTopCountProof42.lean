/- Texts TopCount of this claim, laid together. -/
import Derived.Test.YtagcmjmcjpjihaaGreatDoorGTopCountProof41
import Derived.Test.YtagcmjmcjpjihaaGreatDoorGTopCountProof40
import Derived.Test.YtagcmjmcjpjihaaGreatDoorGTopCountProof23
set_option linter.unusedVariables false
set_option linter.unusedSimpArgs false
set_option linter.unnecessarySimpa false
namespace Go.Proofs.YtagcmjmcjpjihaaGreatDoor
open Go.RowKit Go.Lib
def setM (M : Nat → ByteArray) (s : Nat) (b : ByteArray) : Nat → ByteArray := fun i => if i = s then b else M i
theorem MF : (∀ M b, setM M 0 b 0 = b) ∧ (∀ M b, setM M 0 b 1 = M 1) ∧ (∀ M b, setM M 0 b 2 = M 2) ∧ (∀ M b, setM M 0 b 3 = M 3) ∧ (∀ M b, setM M 1 b 0 = M 0) ∧ (∀ M b, setM M 1 b 1 = b) ∧ (∀ M b, setM M 1 b 2 = M 2) ∧ (∀ M b, setM M 1 b 3 = M 3) ∧
    (∀ M b, setM M 2 b 0 = M 0) ∧ (∀ M b, setM M 2 b 1 = M 1) ∧ (∀ M b, setM M 2 b 2 = b) ∧ (∀ M b, setM M 2 b 3 = M 3) ∧ (∀ M b, setM M 3 b 0 = M 0) ∧ (∀ M b, setM M 3 b 1 = M 1) ∧ (∀ M b, setM M 3 b 2 = M 2) ∧ (∀ M b, setM M 3 b 3 = b) :=
  ⟨fun _ _ => rfl, fun _ _ => rfl, fun _ _ => rfl, fun _ _ => rfl, fun _ _ => rfl, fun _ _ => rfl, fun _ _ => rfl, fun _ _ => rfl, fun _ _ => rfl, fun _ _ => rfl, fun _ _ => rfl, fun _ _ => rfl, fun _ _ => rfl, fun _ _ => rfl, fun _ _ => rfl, fun _ _ => rfl⟩
theorem Cnt.deed {m B : Nat} {c : Core} (H : CoreOk m B c) : DeedOk c ⟨c.nn, [], [Sp.point kT]⟩ := ⟨H.ps.le, H.kn, Nat.le_refl _, ⟨List.Pairwise.nil, by simp, by simp, fun c hc => by cases hc⟩⟩
theorem Cnt.beg {m B : Nat} {c : Core} {D : Nat → Option (Nat × Dv)} {M : Nat → ByteArray} (h : Cnt c D M) (H : CoreOk m B c) (s q : Nat) : Cnt c (setF D s (some (q, ⟨c.nn, [], [Sp.point kT]⟩))) (setM M s (xsB c.nn)) :=
  ⟨h.rows, h.keys, h.le, fun i hi x hx => by
    rcases setF_some hx with ⟨rfl, h1⟩ | ⟨h0, h1⟩
    · cases h1; exact ⟨Cnt.deed H, rfl, rfl, by unfold setM; rw [if_pos rfl]⟩
    · unfold setM; rw [if_neg h0]; exact h.deeds i hi x h1⟩
theorem Cnt.off {c : Core} {D : Nat → Option (Nat × Dv)} {M : Nat → ByteArray} (h : Cnt c D M) (s : Nat) : Cnt c (setF D s none) M :=
  ⟨h.rows, h.keys, h.le, fun i hi x hx => by
    rcases setF_some hx with ⟨rfl, h1⟩ | ⟨h0, h1⟩
    · cases h1
    · exact h.deeds i hi x h1⟩
theorem Cnt.com {m B : Nat} {c : Core} {D : Nat → Option (Nat × Dv)} {M : Nat → ByteArray} (h : Cnt c D M) (H : CoreOk m B c) (s : Nat) (hn : c.nn + 1 ≤ 40) {d : Dk} {hd : Hd} {R0 : List Rw} {W0 : List (List Ch)} {u t : Nat} (ht : t = sinceA (c.nn + 1) (setF D s none)) :
    Cnt (c.com [chT (c.nn + 1)] d hd R0 W0 u t) (setF D s none) M := by
  refine ⟨fun n hn2 => ?_, fun n h1 h2 => ?_, hn, fun i hi x hx => ?_⟩
  · by_cases h9 : n ≤ c.nn
    · rw [H.comLe _ _ _ _ _ _ _ h9]; exact h.rows n h9
    · obtain rfl : n = c.nn + 1 := by have : (c.com [chT (c.nn + 1)] d hd R0 W0 u t).nn = c.nn + 1 := rfl; omega
      rw [H.comAt, h.rows _ (Nat.le_refl _), appC]
  · show (c.keys ++ [keysOf [chT (c.nn + 1)]])[n]? = _
    by_cases h9 : n ≤ c.nn
    · rw [List.getElem?_append_left (by rw [H.kl]; omega)]; exact h.keys n h1 h9
    · obtain rfl : n = c.nn + 1 := by have : (c.com [chT (c.nn + 1)] d hd R0 W0 u t).nn = c.nn + 1 := rfl; omega
      rw [List.getElem?_append_right (by rw [H.kl]; omega), H.kl, Nat.sub_self]
      rfl
  · obtain ⟨g1, g2⟩ := (h.off s).deeds i hi x hx
    exact ⟨g1.com (by rw [ht]; exact sinceA_at _ _ hi hx), g2⟩
theorem Cnt.start (m : Nat) (M : Nat → ByteArray) : Cnt (Core.new (newD (m + 50)) newH [] [] 0) (fun _ => none) M :=
  ⟨fun n hn => by
    have : n = 0 := Nat.le_zero.1 hn
    subst this; rfl, fun n h1 h2 => by have : n ≤ 0 := h2; omega, Nat.zero_le _, fun i hi x hx => by cases hx⟩
theorem QInv.chT {n : Nat} (h : n ≤ 40) : QInv [chT n] [Sp.point kT] := ⟨List.pairwise_singleton _ _, by simp, by simp, fun c hc => by rw [List.mem_singleton.1 hc]; exact chT_ok h⟩
theorem getC {n : Nat} : getG (valR (rowsC n) kT) [] [] kT = (xsB n, decide (0 < n), 0) ∧ getB [] [] kT = [Sp.point kT] := by
  have hk := keyN_yes kT_ok
  constructor
  · unfold getG
    rw [if_neg (by rw [hk]; simp), valC]
    rfl
  · unfold getB
    rw [if_neg (by rw [hk]; simp)]
    rfl
/-- What the law is handed. -/
def TnArg (a : Option Addr) (l : List Int) (w : World) : Prop := LibOk w ∧ ValsAt w a (l.map (.int .i64))
theorem TnArg.base {a : Option Addr} {l : List Int} {w : World} (h : TnArg a l w) : Own (fun _ => False) w w [.imm (TnArg a l)] :=
  Own.base w _ fun w' hw' => ⟨h.1.up hw', vals_up h.2 hw'⟩
set_option maxHeartbeats 8000000 in
set_option maxRecDepth 100000 in
theorem topCount_any (a : Option Addr) (n cap : Nat) (l : List Int) (W : World) (hφ : TnArg a l W) (hl : l.length = n) (hn : n ≤ 9223372036854775807) :
    Calls Tryz.prog 5 #[.slice a n cap] W fun e w' => e = .returned (.bool true) ∧ Ext W w' := by
  have hO := (hφ.base.again).imp (ψ := LibOk) fun _ h => h.1
  have HG := fun w (h : TnArg a l w) => works_any w h.1
  have HS := started_does 70 (by omega) (by omega)
  rw [show ((70 : Nat) : Int) + 50 = 120 from rfl] at HS
  (replace hf := fa_ hO)
  go_enter Tryz.func5, Tryz.ntmps5
  by_cases h60 : 60 < n
  · go_wp2_with (first | (go_at_call 42; (with_reducible apply Calls.mono (HG _ (Own.immOf (φ := TnArg a l) hO pk_)); refine cu_ ?_; clear hO; (try clear hf); intro w8 hO hf)) | (refine sq_ ?_; clear hO; (try clear hf); intro w9 hO hf))
    all_goals try (exfalso; omega; done)
    go_ret
    exact ⟨rfl, hO.toExt⟩
  · have H0 := CoreOk.start (m := 70) (by omega) (by omega)
    have C0 := Cnt.start 70 (fun _ => ⟨#[]⟩)
    obtain ⟨f1, f2, f3, f4, f5⟩ := start_facts 70
    obtain ⟨c0, hc⟩ : ∃ c, c = Core.new (newD (70 + 50)) newH [] [] 0 := ⟨_, rfl⟩
    rw [← hc] at HS H0 C0 f1 f2 f3 f4 f5
    rw [← f3] at HS
    clear hc f3
    have HH0 := Lib.hid (show CoreOk 70 0 c0 ∧ Cnt c0 (fun _ => none) (fun _ => ⟨#[]⟩) ∧ c0.d.fuse = -1 from ⟨H0, C0, f4⟩)
    clear H0 C0 f2 f4 f5
    go_wp2_with (first | (go_at_call 42; (with_reducible apply Calls.mono (HG _ (Own.immOf (φ := TnArg a l) hO pk_)); refine cu_ ?_; clear hO; (try clear hf); intro w8 hO hf)) | (go_at_call 17; (with_reducible refine Does.use hO (HS) tk_ (du_ ?_); clear hO; (try clear hf); intro x9 w9 hO hf; (obtain ⟨p, e⟩ := x9; dsimp only at hO ⊢; (replace hf := fa_ hO)))) | (refine sq_ ?_; clear hO; (try clear hf); intro w9 hO hf))
    obtain ⟨g, hg9⟩ := (hO.pick (r := Var _ [.string ⟨#[]⟩, .string ⟨#[]⟩, .string ⟨#[]⟩, .string ⟨#[]⟩] 79) pk_).named
    rw [← hg9]
    rw [← hg9] at hO
    clear hg9
    go_loopw [7, 8] (fun v7 v8 wr => ∃ (i : Nat) (c : Core) (D : Nat → Option (Nat × Dv)) (M : Nat → ByteArray), v7 = .int .i64 (c.nn : Int) ∧ v8 = .int .i64 (i : Int) ∧ i ≤ n ∧ Hid (CoreOk 70 i c ∧ Cnt c D M ∧ c.d.fuse = -1) ∧
      Own (fun _ => False) W wr [Var g [.string (M 0), .string (M 1), .string (M 2), .string (M 3)] 79, EngR e p 70 c D, DiskR p c.d, .imm LibOk, .imm (TnArg a l)]) (fun _ v _ => n + 1 - (intOf v).toNat)
    case atStart => exact ⟨0, c0, fun _ => none, fun _ => ⟨#[]⟩, by rw [f1]; rfl, rfl, by omega, HH0, hO.cut sb_⟩
    case round =>
      clear hO HH0
      obtain ⟨i, c, D, M, rfl, rfl, hi, HI, hO⟩ := hrel
      rename World => w1
      obtain ⟨H, HC, hf0⟩ := HI.out
      clear HI
      have hle := HC.le
      (replace hf := fa_ hO)
      by_cases hlt : i < n
      · have hn2 : i < (l.map (Value.int .i64)).length := by rw [List.length_map]; omega
        have hg := List.getElem?_eq_getElem hn2
        rw [List.getElem_map] at hg
        obtain ⟨b, off, rfl⟩ := ValsAt.some (Own.immOf (φ := TnArg a l) hO pk_).2 hg
        have c9 := ValsAt.get (Own.immOf (φ := TnArg (some ⟨b, off, none⟩) l) hO pk_).2 hg
        obtain ⟨s, hs4, hse⟩ := and3 (l[i]'(by omega))
        generalize l[i]'(by omega) = t at *
        clear hg hn2
        cases hD : D s with
        | none =>
          have HB := ebegin_ok e p 70 c D s hs4 hD
          have HDD := fun q => edeed_ok e p 70 c (setF D s (some (q, ⟨c.nn, [], []⟩))) s hs4 (q, ⟨c.nn, [], []⟩) (setF_at _ _ _)
          have HGT := fun q => eget_does (e := e) (p := p) (x := (q, ⟨c.nn, [], []⟩)) (φ := LibOk) H hs4 (setF_at D s (some (q, ⟨c.nn, [], []⟩))) H.fresh kT (by decide) (fun _ h => h)
          simp only [HC.rows _ (Nat.le_refl _), (getC (n := c.nn)).1, (getC (n := c.nn)).2, setF_twice] at HGT
          rw [show errV 0 = .nilIface from rfl] at HGT
          change ∀ q, Does _ _ #[_, .string ⟨#[116, 47, 110]⟩] _ _ at HGT
          have HN := Lib.hid (show CoreOk 70 (i + 1) c ∧ (∀ q, Cnt c (setF D s (some (q, ⟨c.nn, [], [Sp.point kT]⟩))) (setM M s (xsB c.nn))) ∧ c.d.fuse = -1 from ⟨H.more (by omega) (by omega), fun q => HC.beg H s q, hf0⟩)
          clear H HC hf0 hD
          rcases four4 hs4 with rfl | rfl | rfl | rfl
          all_goals
            simp only [show ((0 : Nat) : Int) = 0 from rfl, show ((1 : Nat) : Int) = 1 from rfl, show ((2 : Nat) : Int) = 2 from rfl, show ((3 : Nat) : Int) = 3 from rfl] at HB
            simp only [show ((0 : Nat) : Int) = 0 from rfl, show ((1 : Nat) : Int) = 1 from rfl, show ((2 : Nat) : Int) = 2 from rfl, show ((3 : Nat) : Int) = 3 from rfl] at HDD
            simp only [show ((0 : Nat) : Int) = 0 from rfl, show ((1 : Nat) : Int) = 1 from rfl, show ((2 : Nat) : Int) = 2 from rfl, show ((3 : Nat) : Int) = 3 from rfl] at hse
            go_wp2_with (first | (go_at_call 20; (with_reducible refine Does.use hO (HB) tk_ (du_ ?_); clear hO; (try clear hf); intro x9 w9 hO hf; rename Nat => q9)) | (go_at_call 30; (with_reducible refine Does.use hO (HDD _) tk_ (du_ ?_); clear hO; (try clear hf); intro x9 w9 hO hf)) | (go_at_call 43; (with_reducible refine Does.use hO (HGT _) tk_ (du_ ?_); clear hO; (try clear hf); intro x9 w9 hO hf)) | (refine sq_ ?_; clear hO; (try clear hf); intro w9 hO hf))
            all_goals try (exfalso; omega; done)
            exact ⟨⟨i + 1, c, _, _, rfl, by go_num, by omega, Lib.hid ⟨HN.out.1, HN.out.2.1 q9, HN.out.2.2⟩, (by simp only [MF]; exact hO.cut sb_)⟩, by simp [intOf]; omega⟩
        | some x =>
          obtain ⟨hx, hxC, hxR, hM⟩ := HC.deeds s hs4 x hD
          have hxn := hx.le
          have HB := ebegin_busy e p 70 c D s hs4 x hD
          have HDD := edeed_ok e p 70 c D s hs4 x hD
          have hMz : (M s).size = x.2.since := by rw [hM, xsB_size]
          have HP := eput_does (e := e) (p := p) (m := 70) (φ := LibOk) hs4 hD hx kT (M s ++ ⟨#[120]⟩) (by decide) (by rw [ByteArray.size_append, hMz]; show _ + 1 ≤ _; omega) (fun _ h => h)
          rw [hxC, show (⟨kT, M s ++ ⟨#[120]⟩, false⟩ : Ch) = chT (x.2.since + 1) from by rw [hM, xsB_succ]; rfl] at HP
          change Does _ _ #[_, .string ⟨#[116, 47, 110]⟩, _] _ _ at HP
          by_cases h40 : x.2.since = 40
          · rw [putT_big (n := x.2.since + 1) (by omega)] at HP
            rw [h40] at hMz
            clear H HC hf0 hD hM hx hxC hxR
            simp only [show errV 7 = .iface 124 (.int .i64 7) from rfl] at HB
            simp only [show errV 1 = .iface 124 (.int .i64 1) from rfl] at HP
            rcases four4 hs4 with rfl | rfl | rfl | rfl
            all_goals
              simp only [show ((0 : Nat) : Int) = 0 from rfl, show ((1 : Nat) : Int) = 1 from rfl, show ((2 : Nat) : Int) = 2 from rfl, show ((3 : Nat) : Int) = 3 from rfl] at HB
              simp only [show ((0 : Nat) : Int) = 0 from rfl, show ((1 : Nat) : Int) = 1 from rfl, show ((2 : Nat) : Int) = 2 from rfl, show ((3 : Nat) : Int) = 3 from rfl] at HDD
              simp only [show ((0 : Nat) : Int) = 0 from rfl, show ((1 : Nat) : Int) = 1 from rfl, show ((2 : Nat) : Int) = 2 from rfl, show ((3 : Nat) : Int) = 3 from rfl] at hse
              go_wp2_with (first | (go_at_call 20; (with_reducible refine Does.use hO (HB) tk_ (du_ ?_); clear hO; (try clear hf); intro x9 w9 hO hf)) | (go_at_call 30; (with_reducible refine Does.use hO (HDD) tk_ (du_ ?_); clear hO; (try clear hf); intro x9 w9 hO hf)) | (go_at_call 44; (with_reducible refine Does.use hO (HP) tk_ (du_ ?_); clear hO; (try clear hf); intro x9 w9 hO hf)) | (refine sq_ ?_; clear hO; (try clear hf); intro w9 hO hf))
              all_goals try (exfalso; omega; done)
              go_ret
              exact ⟨rfl, hO.toExt⟩
          · obtain ⟨pt1, pt2⟩ := putT_ok (n := x.2.since + 1) (by omega)
            have hMl : (M s).size ≤ 40 := by omega
            clear hMz
            rw [pt1, pt2] at HP
            have hdd : DeedOk c ⟨x.2.since, [chT (x.2.since + 1)], x.2.R⟩ := ⟨hx.f, hx.k, hx.le, by rw [hxR]; exact QInv.chT (by omega)⟩
            have HCM := ecommit_q e p 70 i c (setF D s (some (x.1, ⟨x.2.since, [chT (x.2.since + 1)], x.2.R⟩))) H (by omega) s hs4 (x.1, ⟨x.2.since, [chT (x.2.since + 1)], x.2.R⟩) (setF_at _ _ _) hdd hf0
            have hcl : clearA c.keys x.2.R x.2.since = decide (x.2.since = c.nn) := by rw [hxR]; exact clearC HC H.kl hx.le
            have HN9 : ∀ w, Calls Tryz.prog 45 #[errV 9] w fun e w' => e = .returned (.int .i64 9) ∧ w' = w := fun w => number_any 9 w (by omega)
            simp only [show errV 7 = .iface 124 (.int .i64 7) from rfl] at HB
            simp only [show errV 9 = .iface 124 (.int .i64 9) from rfl] at HN9
            rw [show errV 0 = .nilIface from rfl] at HP
            have HH := Lib.hid (show CoreOk 70 i c ∧ Cnt c D M ∧ c.d.fuse = -1 from ⟨H, HC, hf0⟩)
            have HDH := Lib.hid hdd
            have HNX := Lib.hid (show ∀ d hd R0 W0 u, x.2.since = c.nn → Cnt (c.com [chT (x.2.since + 1)] d hd R0 W0 u (sinceA (c.nn + 1) (setF D s none))) (setF D s none) M from fun d hd R0 W0 u h9 => by rw [h9]; exact HC.com H s (by omega) rfl)
            clear H HC hf0 hD hM hx hxC hxR hdd
            rcases four4 hs4 with rfl | rfl | rfl | rfl
            all_goals
              simp only [show ((0 : Nat) : Int) = 0 from rfl, show ((1 : Nat) : Int) = 1 from rfl, show ((2 : Nat) : Int) = 2 from rfl, show ((3 : Nat) : Int) = 3 from rfl] at HB
              simp only [show ((0 : Nat) : Int) = 0 from rfl, show ((1 : Nat) : Int) = 1 from rfl, show ((2 : Nat) : Int) = 2 from rfl, show ((3 : Nat) : Int) = 3 from rfl] at HDD
              simp only [show ((0 : Nat) : Int) = 0 from rfl, show ((1 : Nat) : Int) = 1 from rfl, show ((2 : Nat) : Int) = 2 from rfl, show ((3 : Nat) : Int) = 3 from rfl] at HCM
              simp only [show ((0 : Nat) : Int) = 0 from rfl, show ((1 : Nat) : Int) = 1 from rfl, show ((2 : Nat) : Int) = 2 from rfl, show ((3 : Nat) : Int) = 3 from rfl] at hse
              go_upto_region 27 with (first | (go_at_call 20; (with_reducible refine Does.use hO (HB) tk_ (du_ ?_); clear hO; (try clear hf); intro x9 w9 hO hf)) | (go_at_call 30; (with_reducible refine Does.use hO (HDD) tk_ (du_ ?_); clear hO; (try clear hf); intro x9 w9 hO hf)) | (go_at_call 44; (with_reducible refine Does.use hO (HP) tk_ (du_ ?_); clear hO; (try clear hf); intro x9 w9 hO hf)) | (go_at_call 22; (with_reducible refine Does.use hO (HCM) tk_ (du_ ?_); clear hO; (try clear hf); intro x9 w9 hO hf; (obtain ⟨n', k, c', D', ok, _, _, fz⟩ := x9; dsimp only at hO ⊢; (replace hf := fa_ hO)))) | (refine sq_ ?_; clear hO; (try clear hf); intro w9 hO hf))
              all_goals try (exfalso; omega; done)
              cases ok with
              | none h1 => cases h1
              | down c' h1 h2 h3 h4 => exact absurd HH.out.2.2 h4
              | full h1 h2 h3 h4 =>
                have h9 := of_decide_eq_true (hcl.symm.trans h2)
                refine absurd ?_ h3
                dsimp only
                rw [HH.out.2.1.rows _ (Nat.le_refl _), h9]
                exact commitC (by omega) (by omega)
              | late h1 h2 =>
                simp only [show errV 9 = .iface 124 (.int .i64 9) from rfl]
                go_wp2_with (first | (go_at_call 45; (with_reducible apply Calls.mono (HN9 _); rintro e8 w8 ⟨rfl, rfl⟩; dsimp only)) | (refine sq_ ?_; clear hO; (try clear hf); intro w9 hO hf))
                all_goals try (exfalso; omega; done)
                exact ⟨⟨i + 1, c, _, M, rfl, by go_num, by omega, Lib.hid ⟨HH.out.1.more (by omega) (by omega), HH.out.2.1.off _, HH.out.2.2⟩, (by rw [setF_twice] at hO; exact hO.cut sb_)⟩, by simp [intOf]; omega⟩
              | done d h R0 W0 u h1 h2 h3 h4 h5 =>
                have h9 := of_decide_eq_true (hcl.symm.trans h2)
                simp only [show errV 0 = .nilIface from rfl]
                dsimp only at hO h4
                rw [setF_twice] at hO h4
                go_wp2_with (first | (refine sq_ ?_; clear hO; (try clear hf); intro w9 hO hf))
                all_goals try (exfalso; omega; done)
                exact ⟨⟨i + 1, _, _, M, (by show Value.int .i64 _ = Value.int .i64 ((c.nn + 1 : Nat) : Int); go_num), by go_num, by omega, Lib.hid ⟨h4, HNX.out d h R0 W0 u h9, fz⟩, hO.cut sb_⟩, by simp [intOf]; omega⟩
      · have HR := erows_does e p 70 c D (by rw [HC.rows _ (Nat.le_refl _)]; have := rowsC_len c.nn; omega)
        rw [HC.rows _ (Nat.le_refl _)] at HR
        have HV := fun xa cap w (h : ValsAt w xa ((rowsC c.nn).flatMap rwC)) => value_any xa _ cap (rowsC c.nn) kT w rfl (by have := rowsC_len c.nn; omega) h
        rw [valC] at HV
        change ∀ xa cap w, _ → Calls _ _ #[_, .string ⟨#[116, 47, 110]⟩] _ _ at HV
        have hz := xsB_size c.nn
        generalize xsB c.nn = xs at *
        generalize rowsC c.nn = rs at *
        clear H HC hf0
        by_cases h0 : c.nn = 0
        · rw [h0] at hz ⊢
          simp only [h0, Nat.lt_irrefl, decide_false] at HV
          go_wp2_with (first | (go_at_call 37; (with_reducible refine Does.use hO (HR) tk_ (du_ ?_); clear hO; (try clear hf); intro x9 w9 hO hf; (obtain ⟨xa, xc⟩ := x9; dsimp only at hO ⊢; replace hO := hO.rowImm (a := xa) (n := rs.length) (c := xc) (xs := rs.flatMap rwC) pk_; (replace hf := fa_ hO)))) | (go_at_call 46; (with_reducible refine Own.quiet hO (HV _ _ _ (Own.immOf (φ := fun w => ValsAt w xa (rs.flatMap rwC)) hO pk_)) (ru_ ?_); clear hO; (try clear hf); intro w9 hO hf)) | (refine sq_ ?_; clear hO; (try clear hf); intro w9 hO hf))
          all_goals try (exfalso; omega; done)
          go_ret
          exact ⟨rfl, hO.toExt⟩
        · have h1 : decide (0 < c.nn) = true := decide_eq_true (by omega)
          have h2 : (0 : Int) < (c.nn : Int) := by omega
          rw [h1] at HV
          go_wp2_with (first | (go_at_call 37; (with_reducible refine Does.use hO (HR) tk_ (du_ ?_); clear hO; (try clear hf); intro x9 w9 hO hf; (obtain ⟨xa, xc⟩ := x9; dsimp only at hO ⊢; replace hO := hO.rowImm (a := xa) (n := rs.length) (c := xc) (xs := rs.flatMap rwC) pk_; (replace hf := fa_ hO)))) | (go_at_call 46; (with_reducible refine Own.quiet hO (HV _ _ _ (Own.immOf (φ := fun w => ValsAt w xa (rs.flatMap rwC)) hO pk_)) (ru_ ?_); clear hO; (try clear hf); intro w9 hO hf)) | (refine sq_ ?_; clear hO; (try clear hf); intro w9 hO hf))
          all_goals try (exfalso; omega; done)
          go_ret
          exact ⟨rfl, hO.toExt⟩
end Go.Proofs.YtagcmjmcjpjihaaGreatDoor
