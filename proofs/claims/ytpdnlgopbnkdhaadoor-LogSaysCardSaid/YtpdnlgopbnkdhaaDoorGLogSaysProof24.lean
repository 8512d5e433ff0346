/- Texts Log9, LogSays of this claim, laid together. -/
import Derived.Test.YtpdnlgopbnkdhaaDoorGLogSaysProof23
import Derived.Test.YtpdnlgopbnkdhaaDoorGLogSaysProof11
set_option linter.unusedVariables false
set_option linter.unusedSimpArgs false
namespace Go.Proofs.YtpdnlgopbnkdhaaDoor
open Go.RowKit
theorem same_self (m : Nat) (h : m ≤ 1000) (w : World) : Calls Tryd.prog 16 #[errV m, .int .i64 m] w fun e w' => e = .returned (.bool true) ∧ w' = w := by
  have := same_any m m w h h
  rwa [beq_self_eq_true] at this
theorem scan_len (first : Nat) : ∀ (l : List ByteArray) (i : Nat) (out : List (List Ch)) (deed : List Ch) (used : Nat) (W : List (List Ch)) (u : Nat), scan first i l out deed used = (W, u) →
    W.length ≤ out.length + l.length ∧ ∀ x ∈ W, x ∈ out ∨ x.length ≤ deed.length + l.length
  | [], i, out, deed, used, W, u, h => by
    rw [scan] at h
    injection h with h1 h2
    subst h1
    exact ⟨by simp, fun x hx => .inl hx⟩
  | s :: r, i, out, deed, used, W, u, h => by
    have none : (out, used) = (W, u) → W.length ≤ out.length + (s :: r).length ∧ ∀ x ∈ W, x ∈ out ∨ x.length ≤ deed.length + (s :: r).length := fun e => by
      injection e with h1 h2
      subst h1
      exact ⟨by simp, fun x hx => .inl hx⟩
    rw [scan] at h
    split at h
    · exact none h
    · split at h
      · obtain ⟨h1, h2⟩ := scan_len first r _ _ _ _ W u h
        simp only [List.length_append, List.length_cons, List.length_nil] at h1
        refine ⟨by simp; omega, fun x hx => ?_⟩
        rcases h2 x hx with h3 | h3
        · rcases List.mem_append.1 h3 with h3 | h3
          · exact .inl h3
          · rw [List.mem_singleton.1 h3]; right; omega
        · right; simp at h3 ⊢; omega
      · exact none h
    · split at h
      · obtain ⟨h1, h2⟩ := scan_len first r _ _ _ _ W u h
        refine ⟨by simp; omega, fun x hx => ?_⟩
        rcases h2 x hx with h3 | h3
        · exact .inl h3
        · right; simp at h3 ⊢; omega
      · exact none h
theorem scan_zeros (first : Nat) (h1 : 1 ≤ first) (h2 : first < 16777216) (n : Nat) : scan first 0 (List.replicate n (zeros 96)) [] [] 0 = ([], 0) := by
  cases n with
  | zero => rw [List.replicate_zero, scan]
  | succ n => rw [List.replicate_succ]; exact scan_none (lookB_zeros _ (by omega) (by omega))
theorem secs_new (n frm many : Nat) (h : frm + many ≤ n) : secs (Dk.new n).now frm many = List.replicate many (zeros 96) := by
  unfold secs Dk.new
  rw [List.drop_replicate, List.take_replicate, Nat.min_eq_left (by omega)]
theorem LogOn.new (n frm many first : Nat) (h : frm + many ≤ n) (h1 : 1 ≤ first) (h2 : first < 16777216) : LogOn (Dk.new n) frm many first [] 0 :=
  ⟨rfl, by simpa [Dk.new] using h, by rw [secs_new n frm many h]; exact scan_zeros first h1 h2 many⟩
theorem new_96 (n : Nat) : ∀ s ∈ (Dk.new n).now, s.size = 96 := fun s hs => by
  rw [show s = zeros 96 from (List.mem_replicate.1 hs).2]; rfl
theorem Clean.new (n frm many : Nat) (h : frm + many ≤ n) : Clean (Dk.new n) frm many 0 :=
  ⟨rfl, rfl, fun j _ hj => by unfold Dk.new; dsimp only; rw [List.getElem?_replicate, if_pos (by omega)]⟩
def tkA : ByteArray := ⟨#[116, 47, 97]⟩
theorem tkA_key : KeyOk tkA := .inl ⟨⟨#[97]⟩, by decide, .inl rfl⟩
def cAx : Ch := ⟨tkA, ⟨#[120]⟩, false⟩
theorem cAx_ok : ChOk cAx := ⟨tkA_key, fun (h : false = true) => absurd h (by decide), by decide⟩
theorem Own.varChs {S : Nat → Prop} {W w : World} {l : List Rs} {b : Nat} {c : Ch} {t : TypeId} (h : Own S W w (Var b c.cells t :: l)) : Own S W w (.imm (fun w => ValsAt w (some ⟨b, 0, none⟩) (chs [c])) :: l) :=
  h.toImm (r := Var b c.cells t) fun w hf => by
    rw [chs_one1]
    refine .inr ⟨b, 0, rfl, fun i hi => ?_⟩
    exact Var.at (t := t) hf i _ (List.getElem?_eq_getElem hi)
theorem Own.pureOf {S : Nat → Prop} {W w : World} {l l' : List Rs} {p : Prop} (h : Own S W w l) (hp : Pick l (.pure p) l') : p := h.factOf hp
theorem dss_nil {D : List DV} (h : dss D = []) : D = [] := List.map_eq_nil_iff.1 h
theorem DkOk.mono {k j j' : Nat} {d : Dk} (h : DkOk k j d) (hj : j ≤ j') : DkOk k j' d := ⟨h.now, h.kept, h.f1, h.f2, by have := h.wait; omega, h.ats⟩
theorem set_96 {B : List ByteArray} {n : Nat} {s : ByteArray} (hB : ∀ s ∈ B, s.size = 96) (hs : s.size = 96) : ∀ x ∈ B.set n s, x.size = 96 := fun x hx => by
  rcases List.mem_or_eq_of_mem_set hx with h | rfl
  · exact hB x h
  · exact hs
theorem setsB_96 : ∀ (ws : List (Nat × ByteArray)) (B : List ByteArray), (∀ s ∈ B, s.size = 96) → (∀ t ∈ ws, t.2.size ≤ 96) → ∀ s ∈ setsB B ws, s.size = 96
  | [], B, hB, _ => hB
  | t :: ws, B, hB, hw => setsB_96 ws (B.set t.1 (fullOf t.2)) (set_96 hB (fullOf_size _ (hw t (List.mem_cons_self ..)))) fun x hx => hw x (List.mem_cons_of_mem _ hx)
theorem added_96 {B : List ByteArray} {frm many first u : Nat} {l : List Ch} (hB : ∀ s ∈ B, s.size = 96) (hl : ∀ c ∈ l, ChOk c) (hu : u + l.length + 1 ≤ many) : ∀ s ∈ added B frm many first u l, s.size = 96 :=
  set_96 (setsB_96 _ _ hB fun t ht => (lws_ok (frm := frm) (first := first) hl hu t ht).2) (fullOf_size _ (by rw [secB_size, four_size]; omega))
/-- A log on a disk that does not fall. -/
structure LogUp (k : Nat) (d : Dk) (frm many first : Nat) (W : List (List Ch)) (u : Nat) : Prop where
  on : LogOn d frm many first W u
  ok : DkOk k 1000 d
  fuse : d.fuse = -1
  full : ∀ s ∈ d.now, s.size = 96
theorem LogUp.add {k : Nat} {d : Dk} {frm many first u : Nat} {W : List (List Ch)} {l : List Ch} (h : LogUp k d frm many first W u) (hl : ∀ c ∈ l, ChOk c) (h1 : 1 ≤ first) (hb : first + many ≤ 16777216) (hu : u + l.length + 1 ≤ many) :
    ∃ d', d.addD frm many first u l = (0, d') ∧ LogUp k d' frm many first (W ++ [l]) (u + l.length + 1) := by
  rcases add_ways (first := first) h.on.up h.on.len hl hu with ⟨f, e, hf⟩ | ⟨hn, _⟩
  · refine ⟨_, e, (h.on.add hl h1 hb hu e).1, ?_, hf h.fuse, added_96 h.full hl hu⟩
    refine ⟨?_, ?_, ?_, ?_, Nat.zero_le _, fun t ht => by cases ht⟩
    · dsimp only; rw [added_length]; exact h.ok.now
    · dsimp only; rw [added_length]; exact h.ok.now
    · dsimp only; rw [hf h.fuse]; omega
    · dsimp only; rw [hf h.fuse]; omega
  · exact absurd h.fuse hn
theorem Own.dlAdd {S : Nat → Prop} {W w : World} {l : List Rs} {ka wa a : Option Addr} {n kc c : Nat} {E : List DV} {C : List Ch} {φ : World → Prop} (hφ : ∀ w, φ w → ValsAt w a (chs C))
    (h : Own S W w (Row2 44 1 ka n kc (E.map dv ++ [.slice a C.length c]) :: .imm (fun w => DLAt w wa E) :: .imm φ :: l)) : Own S W w (.imm (fun w => DLAt w ka (E ++ [(a, c, C)])) :: .imm φ :: l) := by
  have h3 := ((((h.rowImm (.here _ _)).and).pick (.there _ (.here _ _))).again).pick (.there _ (.there _ (.here _ _)))
  refine h3.and.imp fun w ⟨⟨h4, h5⟩, h6⟩ => ⟨?_, fun d hd => ?_⟩
  · rw [List.map_append]; exact h4
  · rcases List.mem_append.1 hd with hd | hd
    · exact h5.2 d hd
    · rw [List.mem_singleton.1 hd]; exact hφ _ h6
set_option maxHeartbeats 4000000 in
set_option maxRecDepth 100000 in
theorem logs_any (w : World) (h : LibOk w) : Calls Tryd.prog 10 #[] w fun e w' => e = .returned (.bool true) ∧ Ext w w' := by
  have hO := lib_base h
  have hLO := LogOn.new 8 2 6 1 (by omega) (by omega) (by omega)
  have HN := new_does 8 (by omega) (by omega)
  have HOP := fun p => open_does p (Dk.new 8) 2 6 1 _ [] 0 rfl (by omega) (by simp [Dk.new]) (by simp [Dk.new]) (new_96 8) (by omega) (by omega) rfl hLO.sc
  have HA := fun p q b (φ : World → Prop) (hφ : ∀ w, φ w → LibOk w ∧ ValsAt w (some ⟨b, 0, none⟩) (chs [cAx])) => add_does p q (Dk.new 8) 8 0 2 6 1 0 (some ⟨b, 0, none⟩) 1 1 [cAx] (DkOk.new 8) (by omega) rfl (by omega) (fun c hc => by rw [List.mem_singleton.1 hc]; exact cAx_ok) (by omega) (by omega) (by omega) (by omega) hφ
  have HZ := hLO.quiet (l := [cAx]) (fun c hc => by rw [List.mem_singleton.1 hc]; exact cAx_ok) (by simp) rfl
  rw [HZ] at HA
  have HS : ∀ w, Calls Tryd.prog 16 #[.nilIface, .int .i64 0] w fun e w' => e = .returned (.bool true) ∧ w' = w := fun w => same_self 0 (by omega) w
  rw [show errV 0 = .nilIface from rfl] at HA
  rw [show usedA 0 0 1 = 2 from rfl] at HA
  have HR := fun p q => room_reads p q 2 6 1 2 (by omega) (by omega)
  have HX := fun p q => next_reads p q 2 6 1 2 (by omega) (by omega)
  ((try clear hf); have hf := hO.facts; (try simp only [FX, Nat.zero_add, Nat.reduceAdd, and_true, true_and, List.map_cons, List.map_nil, List.cons_append, List.nil_append] at hf))
  go_enter Tryd.func10, Tryd.ntmps10
  go_wp2_with (first | (go_at_call 12; (with_reducible refine Does.use hO (HN) (by repeat (first | with_reducible exact Takes.nil _ | with_reducible apply Takes.cons | with_reducible exact Pick.here _ _ | with_reducible apply Pick.there)) ?_; clear hO; intro x9 w9 hO; dsimp only at hO ⊢; simp only [List.cons_append, List.nil_append] at hO; ((try clear hf); have hf := hO.facts; (try simp only [FX, Nat.zero_add, Nat.reduceAdd, and_true, true_and, List.map_cons, List.map_nil, List.cons_append, List.nil_append] at hf)); rename Nat => p)) | (go_at_call 14; (with_reducible refine Does.use hO (HOP p) (by repeat (first | with_reducible exact Takes.nil _ | with_reducible apply Takes.cons | with_reducible exact Pick.here _ _ | with_reducible apply Pick.there)) ?_; clear hO; intro x9 w9 hO; dsimp only at hO ⊢; simp only [List.cons_append, List.nil_append] at hO; ((try clear hf); have hf := hO.facts; (try simp only [FX, Nat.zero_add, Nat.reduceAdd, and_true, true_and, List.map_cons, List.map_nil, List.cons_append, List.nil_append] at hf)); (obtain ⟨q, ⟨oa, oc⟩, D⟩ := x9; dsimp only at hO ⊢; have hD9 := dss_nil (Own.pureOf (p := dss D = []) hO (by repeat (first | with_reducible exact Pick.here _ _ | with_reducible apply Pick.there))); subst hD9; simp only [List.length_nil] at hO ⊢; ((try clear hf); have hf := hO.facts; (try simp only [FX, Nat.zero_add, Nat.reduceAdd, and_true, true_and, List.map_cons, List.map_nil, List.cons_append, List.nil_append] at hf))))) | (go_at_call 23; (replace hO := ((hO.pick (r := Var _ [.string ⟨#[116, 47, 97]⟩, .string ⟨#[120]⟩, .bool false] 74) (by repeat (first | with_reducible exact Pick.here _ _ | with_reducible apply Pick.there))).varChs (c := cAx)).take (rs := [.imm LibOk, .imm (fun w => ValsAt w _ (chs [cAx]))]) (by repeat (first | with_reducible exact Takes.nil _ | with_reducible apply Takes.cons | with_reducible exact Pick.here _ _ | with_reducible apply Pick.there)); simp only [List.cons_append, List.nil_append] at hO; replace hO := hO.and; (go_at_call 23; (with_reducible refine Does.use hO (HA p q _ _ (fun _ h => h)) (by repeat (first | with_reducible exact Takes.nil _ | with_reducible apply Takes.cons | with_reducible exact Pick.here _ _ | with_reducible apply Pick.there)) ?_; clear hO; intro x9 w9 hO; dsimp only at hO ⊢; simp only [List.cons_append, List.nil_append] at hO; ((try clear hf); have hf := hO.facts; (try simp only [FX, Nat.zero_add, Nat.reduceAdd, and_true, true_and, List.map_cons, List.map_nil, List.cons_append, List.nil_append] at hf)))))) | (go_at_call 16; (with_reducible apply Calls.mono (HS _); rintro e8 w8 ⟨rfl, rfl⟩; dsimp only)) | (go_at_call 20; (with_reducible refine Reads.use hO (HR p q) (by repeat (first | with_reducible exact Takes.nil _ | with_reducible apply Takes.cons | with_reducible exact Pick.here _ _ | with_reducible apply Pick.there)) ?_; clear hO; intro w9 hx9 hO; clear hx9; dsimp only; ((try clear hf); have hf := hO.facts; (try simp only [FX, Nat.zero_add, Nat.reduceAdd, and_true, true_and, List.map_cons, List.map_nil, List.cons_append, List.nil_append] at hf)))) | (go_at_call 21; (with_reducible refine Reads.use hO (HX p q) (by repeat (first | with_reducible exact Takes.nil _ | with_reducible apply Takes.cons | with_reducible exact Pick.here _ _ | with_reducible apply Pick.there)) ?_; clear hO; intro w9 hx9 hO; clear hx9; dsimp only; ((try clear hf); have hf := hO.facts; (try simp only [FX, Nat.zero_add, Nat.reduceAdd, and_true, true_and, List.map_cons, List.map_nil, List.cons_append, List.nil_append] at hf)))) | ((first | with_reducible refine wpList_alloc_own hO ?_ | with_reducible refine wpList_drew_own hO ?_ | with_reducible refine wp_alloc_own hO ?_ | with_reducible refine wp_drew_own hO ?_ | with_reducible refine bodyPost_alloc_own hO ?_ | with_reducible refine bodyPost_drew_own hO ?_ | ((first | with_reducible apply wpList_set_own | with_reducible apply wp_set_own | with_reducible apply bodyPost_set_own); (focus (first | (with_reducible apply Own.set; (focus (with_reducible apply hO)); (repeat (first | with_reducible exact Put.here _ _ _ | with_reducible apply Put.there)); done) | (with_reducible apply Own.setRow; (focus (with_reducible apply hO)); (focus (repeat (first | with_reducible exact Put.here _ _ _ | with_reducible apply Put.there))); first | assumption | (simp; omega) | (simp; assumption)) | ((repeat' (first | with_reducible apply hO | with_reducible apply Own.set)); all_goals (repeat (first | with_reducible exact Put.here _ _ _ | with_reducible apply Put.there)); done))))); clear hO; intro w9 hO; (try dsimp only [List.set] at hO); ((try clear hf); have hf := hO.facts; (try simp only [FX, Nat.zero_add, Nat.reduceAdd, and_true, true_and, List.map_cons, List.map_nil, List.cons_append, List.nil_append] at hf))))
  go_ret
  exact ⟨rfl, hO.toExt⟩
end Go.Proofs.YtpdnlgopbnkdhaaDoor
namespace Go.Proofs.YtpdnlgopbnkdhaaDoor
open Go.RowKit
/-- What the law is handed. -/
def LsArg (sa : Option Addr) (ss : List ByteArray) (aa : Option Addr) (l : List Ac) (w : World) : Prop := LibOk w ∧ ValsAt w sa (ss.map .string) ∧ ActsAt w aa l
theorem LsArg.base {sa : Option Addr} {ss : List ByteArray} {aa : Option Addr} {l : List Ac} {w : World} (h : LsArg sa ss aa l w) : Own (fun _ => False) w w [.imm (LsArg sa ss aa l)] :=
  Own.base w _ fun w' hw' => ⟨h.1.up hw', vals_up h.2.1 hw', h.2.2.up (agree_up hw')⟩
set_option maxHeartbeats 4000000 in
set_option maxRecDepth 100000 in
theorem logSays_any (sa : Option Addr) (n sc : Nat) (ss : List ByteArray) (frm many first : Int) (aa : Option Addr) (m ac : Nat) (l : List Ac) (W : World) (hφ : LsArg sa ss aa l W) (hss : ss.length = n) (hll : l.length = m)
    (hsl : n ≤ 9223372036854775807) (hl : m ≤ 9223372036854775807) (hf1 : -9223372036854775808 ≤ first) :
    Calls Tryd.prog 3 #[.slice sa n sc, .int .i64 frm, .int .i64 many, .int .i64 first, .slice aa m ac] W fun e w' => e = .returned (.bool true) ∧ Ext W w' := by
  have hO := (hφ.base.again).imp (ψ := LibOk) fun _ h => h.1
  have HG := fun w (h : LsArg sa ss aa l w) => logs_any w h.1
  have HL : ∀ w, LsArg sa ss aa l w → Calls Tryd.prog 11 #[.slice aa m ac, .int .i64 20] w fun e w' => e = .returned (.bool (lightActs l 20)) ∧ w' = w := fun w hA => by
    subst hll; exact lightActs_any aa ac l 20 w (by unfold maxLen; omega) (by omega) hA.2.2
  by_cases hlight : n ≤ 40 ∧ lightActs l 20 = true ∧ first ≤ 1000000
  · obtain ⟨h40, hli, hf2⟩ := hlight
    rw [hli] at HL
    have hm20 : m ≤ 20 := by have := lightActs_len hli; omega
    go_enter Tryd.func3, Tryd.ntmps3
    go_wp2_with (first | (go_at_call 10; (with_reducible apply Calls.mono (HG _ (Own.immOf (φ := LsArg sa ss aa l) hO (by repeat (first | with_reducible exact Pick.here _ _ | with_reducible apply Pick.there)))); rintro e8 w8 ⟨rfl, hx8⟩; replace hO := hO.ext hx8; clear hx8; dsimp only; ((try clear hf); have hf := hO.facts; (try simp only [FX, Nat.zero_add, Nat.reduceAdd, and_true, true_and, List.map_cons, List.map_nil, List.cons_append, List.nil_append] at hf)))) | (go_at_call 11; (with_reducible apply Calls.mono (HL _ (Own.immOf (φ := LsArg sa ss aa l) hO (by repeat (first | with_reducible exact Pick.here _ _ | with_reducible apply Pick.there)))); rintro e8 w8 ⟨rfl, rfl⟩; dsimp only)) | ((first | with_reducible refine wpList_alloc_own hO ?_ | with_reducible refine wpList_drew_own hO ?_ | with_reducible refine wp_alloc_own hO ?_ | with_reducible refine wp_drew_own hO ?_ | with_reducible refine bodyPost_alloc_own hO ?_ | with_reducible refine bodyPost_drew_own hO ?_ | ((first | with_reducible apply wpList_set_own | with_reducible apply wp_set_own | with_reducible apply bodyPost_set_own); (focus (first | (with_reducible apply Own.set; (focus (with_reducible apply hO)); (repeat (first | with_reducible exact Put.here _ _ _ | with_reducible apply Put.there)); done) | (with_reducible apply Own.setRow; (focus (with_reducible apply hO)); (focus (repeat (first | with_reducible exact Put.here _ _ _ | with_reducible apply Put.there))); first | assumption | (simp; omega) | (simp; assumption)) | ((repeat' (first | with_reducible apply hO | with_reducible apply Own.set)); all_goals (repeat (first | with_reducible exact Put.here _ _ _ | with_reducible apply Put.there)); done))))); clear hO; intro w9 hO; (try dsimp only [List.set] at hO); ((try clear hf); have hf := hO.facts; (try simp only [FX, Nat.zero_add, Nat.reduceAdd, and_true, true_and, List.map_cons, List.map_nil, List.cons_append, List.nil_append] at hf))))
    all_goals try (exfalso; omega; done)
    rename World => w0
    have hO9 := hO
    clear hO
    go_loopw [12] (fun v wr => ∃ i : Nat, v = .int .i64 i ∧ i ≤ n ∧ Hid (∀ j (hj : j < ss.length), j < i → ss[j].size ≤ 96) ∧ Own (fun _ => False) W wr [.imm LibOk, .imm (LsArg sa ss aa l)]) (fun v _ => n - (intOf v).toNat)
    case atStart => exact ⟨0, rfl, by omega, Lib.hid (fun j _ h => by omega), hO9⟩
    case round =>
      clear hO9
      obtain ⟨i, rfl, hi, HS, hO⟩ := hrel
      rename World => w1
      by_cases hlt : i < n
      · have hi2 : i < ss.length := by omega
        have hci : (ss.map Value.string)[i]? = some (.string ss[i]) := by rw [List.getElem?_map, List.getElem?_eq_getElem hi2]; rfl
        have h21 := (Own.immOf (φ := LsArg sa ss aa l) hO (by repeat (first | with_reducible exact Pick.here _ _ | with_reducible apply Pick.there))).2.1
        obtain ⟨b, off, rfl⟩ := ValsAt.some h21 hci
        have hcell := ValsAt.get h21 hci
        have HS2 := fun (h : ss[i].size ≤ 96) => Lib.hid (show ∀ j (hj : j < ss.length), j < i + 1 → ss[j].size ≤ 96 from fun j hj hji => by
          rcases Nat.lt_succ_iff_lt_or_eq.1 hji with h1 | rfl
          · exact HS.out j hj h1
          · exact h)
        clear HS hci
        generalize ss[i] = s at *
        go_wp2_with (first | ((first | with_reducible refine wpList_alloc_own hO ?_ | with_reducible refine wpList_drew_own hO ?_ | with_reducible refine wp_alloc_own hO ?_ | with_reducible refine wp_drew_own hO ?_ | with_reducible refine bodyPost_alloc_own hO ?_ | with_reducible refine bodyPost_drew_own hO ?_ | ((first | with_reducible apply wpList_set_own | with_reducible apply wp_set_own | with_reducible apply bodyPost_set_own); (focus (first | (with_reducible apply Own.set; (focus (with_reducible apply hO)); (repeat (first | with_reducible exact Put.here _ _ _ | with_reducible apply Put.there)); done) | (with_reducible apply Own.setRow; (focus (with_reducible apply hO)); (focus (repeat (first | with_reducible exact Put.here _ _ _ | with_reducible apply Put.there))); first | assumption | (simp; omega) | (simp; assumption)) | ((repeat' (first | with_reducible apply hO | with_reducible apply Own.set)); all_goals (repeat (first | with_reducible exact Put.here _ _ _ | with_reducible apply Put.there)); done))))); clear hO; intro w9 hO; (try dsimp only [List.set] at hO); ((try clear hf); have hf := hO.facts; (try simp only [FX, Nat.zero_add, Nat.reduceAdd, and_true, true_and, List.map_cons, List.map_nil, List.cons_append, List.nil_append] at hf))))
        · go_ret
          exact ⟨rfl, hO.toExt⟩
        · exact ⟨⟨i + 1, by go_num, by omega, HS2 (by omega), hO⟩, by simp [intOf]; omega⟩
      · have H96 := Lib.hid (show ∀ s ∈ ss, s.size ≤ 96 from fun s hs => by
          obtain ⟨j, hj, rfl⟩ := List.mem_iff_getElem.1 hs
          exact HS.out j hj (by omega))
        clear HS
        obtain ⟨k, hk, hk1, hk2, hkn⟩ : ∃ k : Nat, (k : Int) = max 1 (n : Int) ∧ 1 ≤ k ∧ k ≤ 200 ∧ n ≤ k := ⟨max 1 n, by omega, by omega, by omega, by omega⟩
        have HN := new_does k hk1 hk2
        rw [hk] at HN
        go_wp2_with (first | (go_at_call 12; (with_reducible refine Does.use hO (HN) (by repeat (first | with_reducible exact Takes.nil _ | with_reducible apply Takes.cons | with_reducible exact Pick.here _ _ | with_reducible apply Pick.there)) ?_; clear hO; intro x9 w9 hO; dsimp only at hO ⊢; simp only [List.cons_append, List.nil_append] at hO; ((try clear hf); have hf := hO.facts; (try simp only [FX, Nat.zero_add, Nat.reduceAdd, and_true, true_and, List.map_cons, List.map_nil, List.cons_append, List.nil_append] at hf)); rename Nat => p)) | ((first | with_reducible refine wpList_alloc_own hO ?_ | with_reducible refine wpList_drew_own hO ?_ | with_reducible refine wp_alloc_own hO ?_ | with_reducible refine wp_drew_own hO ?_ | with_reducible refine bodyPost_alloc_own hO ?_ | with_reducible refine bodyPost_drew_own hO ?_ | ((first | with_reducible apply wpList_set_own | with_reducible apply wp_set_own | with_reducible apply bodyPost_set_own); (focus (first | (with_reducible apply Own.set; (focus (with_reducible apply hO)); (repeat (first | with_reducible exact Put.here _ _ _ | with_reducible apply Put.there)); done) | (with_reducible apply Own.setRow; (focus (with_reducible apply hO)); (focus (repeat (first | with_reducible exact Put.here _ _ _ | with_reducible apply Put.there))); first | assumption | (simp; omega) | (simp; assumption)) | ((repeat' (first | with_reducible apply hO | with_reducible apply Own.set)); all_goals (repeat (first | with_reducible exact Put.here _ _ _ | with_reducible apply Put.there)); done))))); clear hO; intro w9 hO; (try dsimp only [List.set] at hO); ((try clear hf); have hf := hO.facts; (try simp only [FX, Nat.zero_add, Nat.reduceAdd, and_true, true_and, List.map_cons, List.map_nil, List.cons_append, List.nil_append] at hf))))
        rename World => w2
        rename Nat => p
        have hO9 := hO
        clear hO hf HN
        go_loopw [15] (fun v wr => ∃ (i : Nat) (d : Dk), v = .int .i64 i ∧ i ≤ n ∧ (DkOk k i d ∧ d.down = false ∧ d.fuse = -1) ∧ Hid (∀ s ∈ d.now, s.size = 96) ∧ Own (fun _ => False) W wr [DiskR p d, .imm LibOk, .imm (LsArg sa ss aa l)]) (fun v _ => n - (intOf v).toNat)
        case atStart => exact ⟨0, Dk.new k, rfl, by omega, ⟨DkOk.new k, rfl, rfl⟩, Lib.hid (new_96 k), hO9.cut (by repeat (first | with_reducible apply Sub.cons | with_reducible exact Pick.here _ _ | with_reducible apply Pick.there | with_reducible apply Sub.base | with_reducible exact Keeps.here _ | with_reducible apply Keeps.skip))⟩
        case round =>
          clear hO9
          obtain ⟨i, d, rfl, hi, ⟨hD, hdn, hfu⟩, HD, hO⟩ := hrel
          rename World => w3
          by_cases hlt : i < n
          · have hi2 : i < ss.length := by omega
            have hci : (ss.map Value.string)[i]? = some (.string ss[i]) := by rw [List.getElem?_map, List.getElem?_eq_getElem hi2]; rfl
            have h21 := (Own.immOf (φ := LsArg sa ss aa l) hO (by repeat (first | with_reducible exact Pick.here _ _ | with_reducible apply Pick.there))).2.1
            obtain ⟨b, off, rfl⟩ := ValsAt.some h21 hci
            have hcell := ValsAt.get h21 hci
            have hs96 := H96.out _ (List.getElem_mem hi2)
            clear hci
            generalize ss[i] = s at *
            have HW := write_does p d i s hD.f1 hD.f2 (by have := hD.wait; omega)
            rcases write_up (n := i) hdn (by rw [hD.now]; omega) hs96 with ⟨h1, _⟩ | ⟨f, h1, h2⟩
            · exact absurd hfu h1
            have hD2 := hD.write i s
            have HD2 := Lib.hid (set_96 (n := i) HD.out (fullOf_size s hs96))
            have hf2' := h2 hfu
            rw [h1] at HW hD2
            dsimp only at HW hD2
            rw [show errV 0 = .nilIface from rfl] at HW
            clear h1 h2 HD
            generalize d.now.set i (fullOf s) = now2 at *
            generalize d.wait ++ [(i, fullOf s)] = wait2 at *
            go_wp2_with (first | (go_at_call 13; (with_reducible refine Does.use hO (HW) (by repeat (first | with_reducible exact Takes.nil _ | with_reducible apply Takes.cons | with_reducible exact Pick.here _ _ | with_reducible apply Pick.there)) ?_; clear hO; intro x9 w9 hO; dsimp only at hO ⊢; simp only [List.cons_append, List.nil_append] at hO; ((try clear hf); have hf := hO.facts; (try simp only [FX, Nat.zero_add, Nat.reduceAdd, and_true, true_and, List.map_cons, List.map_nil, List.cons_append, List.nil_append] at hf)))) | ((first | with_reducible refine wpList_alloc_own hO ?_ | with_reducible refine wpList_drew_own hO ?_ | with_reducible refine wp_alloc_own hO ?_ | with_reducible refine wp_drew_own hO ?_ | with_reducible refine bodyPost_alloc_own hO ?_ | with_reducible refine bodyPost_drew_own hO ?_ | ((first | with_reducible apply wpList_set_own | with_reducible apply wp_set_own | with_reducible apply bodyPost_set_own); (focus (first | (with_reducible apply Own.set; (focus (with_reducible apply hO)); (repeat (first | with_reducible exact Put.here _ _ _ | with_reducible apply Put.there)); done) | (with_reducible apply Own.setRow; (focus (with_reducible apply hO)); (focus (repeat (first | with_reducible exact Put.here _ _ _ | with_reducible apply Put.there))); first | assumption | (simp; omega) | (simp; assumption)) | ((repeat' (first | with_reducible apply hO | with_reducible apply Own.set)); all_goals (repeat (first | with_reducible exact Put.here _ _ _ | with_reducible apply Put.there)); done))))); clear hO; intro w9 hO; (try dsimp only [List.set] at hO); ((try clear hf); have hf := hO.facts; (try simp only [FX, Nat.zero_add, Nat.reduceAdd, and_true, true_and, List.map_cons, List.map_nil, List.cons_append, List.nil_append] at hf))))
            exact ⟨⟨i + 1, ⟨d.kept, now2, wait2, f, false⟩, by go_num, by omega, ⟨hD2, rfl, hf2'⟩, HD2, hO.cut (by repeat (first | with_reducible apply Sub.cons | with_reducible exact Pick.here _ _ | with_reducible apply Pick.there | with_reducible apply Sub.base | with_reducible exact Keeps.here _ | with_reducible apply Keeps.skip))⟩, by simp [intOf]; omega⟩
          · obtain rfl : i = n := by omega
            have HSC := sectors_reads p d
            rw [hD.now] at HSC
            by_cases hbad : frm < 0 ∨ many < 1 ∨ (k : Int) < many ∨ (k : Int) - many < frm ∨ first < 1
            · have HO := open_bad p d frm many first (by rw [hD.now]; exact hbad) (by rw [hD.now]; omega)
              have HS : ∀ w, Calls Tryd.prog 16 #[errV 1, .int .i64 1] w fun e w' => e = .returned (.bool true) ∧ w' = w := fun w => same_self 1 (by omega) w
              rw [show errV 1 = .iface 97 (.int .i64 1) from rfl] at HO HS
              ((try clear hf); have hf := hO.facts; (try simp only [FX, Nat.zero_add, Nat.reduceAdd, and_true, true_and, List.map_cons, List.map_nil, List.cons_append, List.nil_append] at hf))
              go_wp2_with (first | (go_at_call 15; (with_reducible apply Reads.use hO (HSC); (focus (repeat (first | with_reducible exact Takes.nil _ | with_reducible apply Takes.cons | with_reducible exact Pick.here _ _ | with_reducible apply Pick.there))); clear hO; intro w9 hx9 hO; clear hx9; dsimp only; ((try clear hf); have hf := hO.facts; (try simp only [FX, Nat.zero_add, Nat.reduceAdd, and_true, true_and, List.map_cons, List.map_nil, List.cons_append, List.nil_append] at hf)))) | (go_at_call 14; (with_reducible refine Does.use hO (HO) (by repeat (first | with_reducible exact Takes.nil _ | with_reducible apply Takes.cons | with_reducible exact Pick.here _ _ | with_reducible apply Pick.there)) ?_; clear hO; intro x9 w9 hO; dsimp only at hO ⊢; simp only [List.cons_append, List.nil_append] at hO; ((try clear hf); have hf := hO.facts; (try simp only [FX, Nat.zero_add, Nat.reduceAdd, and_true, true_and, List.map_cons, List.map_nil, List.cons_append, List.nil_append] at hf)))) | (go_at_call 16; (with_reducible apply Calls.mono (HS _); rintro e8 w8 ⟨rfl, rfl⟩; dsimp only)) | ((first | with_reducible refine wpList_alloc_own hO ?_ | with_reducible refine wpList_drew_own hO ?_ | with_reducible refine wp_alloc_own hO ?_ | with_reducible refine wp_drew_own hO ?_ | with_reducible refine bodyPost_alloc_own hO ?_ | with_reducible refine bodyPost_drew_own hO ?_ | ((first | with_reducible apply wpList_set_own | with_reducible apply wp_set_own | with_reducible apply bodyPost_set_own); (focus (first | (with_reducible apply Own.set; (focus (with_reducible apply hO)); (repeat (first | with_reducible exact Put.here _ _ _ | with_reducible apply Put.there)); done) | (with_reducible apply Own.setRow; (focus (with_reducible apply hO)); (focus (repeat (first | with_reducible exact Put.here _ _ _ | with_reducible apply Put.there))); first | assumption | (simp; omega) | (simp; assumption)) | ((repeat' (first | with_reducible apply hO | with_reducible apply Own.set)); all_goals (repeat (first | with_reducible exact Put.here _ _ _ | with_reducible apply Put.there)); done))))); clear hO; intro w9 hO; (try dsimp only [List.set] at hO); ((try clear hf); have hf := hO.facts; (try simp only [FX, Nat.zero_add, Nat.reduceAdd, and_true, true_and, List.map_cons, List.map_nil, List.cons_append, List.nil_append] at hf))))
              all_goals first | (exfalso; omega; done) | (go_ret; exact ⟨rfl, hO.toExt⟩)
            · obtain ⟨frm, rfl⟩ := Int.eq_ofNat_of_zero_le (show 0 ≤ frm by omega)
              obtain ⟨many, rfl⟩ := Int.eq_ofNat_of_zero_le (show 0 ≤ many by omega)
              obtain ⟨first, rfl⟩ := Int.eq_ofNat_of_zero_le (show 0 ≤ first by omega)
              have hfm : frm + many ≤ k := by omega
              have hm1 : 1 ≤ many := by omega
              have hfi1 : 1 ≤ first := by omega
              have hfi2 : first ≤ 1000000 := by omega
              obtain ⟨sec, hsec⟩ : ∃ sec, secs d.now frm many = sec := ⟨_, rfl⟩
              obtain ⟨Wd, u, hsc⟩ : ∃ Wd u, scan first 0 sec [] [] 0 = (Wd, u) := ⟨_, _, rfl⟩
              have hU : LogUp k d frm many first Wd u := ⟨⟨hdn, by rw [hD.now]; exact hfm, by rw [hsec]; exact hsc⟩, hD.mono (by omega), hfu, HD.out⟩
              have hsl2 : sec.length = many := by rw [← hsec]; exact secs_length (by rw [hD.now]; exact hfm)
              have hs96 : ∀ s ∈ sec, s.size = 96 := fun s hs => HD.out s (List.mem_of_mem_drop (List.mem_of_mem_take (by rw [← hsec] at hs; exact hs)))
              have hget : ∀ j (hj : j < many), d.now[frm + j]? = some (sec[j]'(by omega)) := fun j hj => by
                have h1 := secs_get d.now frm many j
                rw [if_pos hj, hsec, List.getElem?_eq_getElem (by omega)] at h1
                exact h1.symm
              have hWl := scan_len first sec 0 [] [] 0 Wd u hsc
              simp only [List.length_nil, Nat.zero_add, hsl2, List.not_mem_nil, false_or] at hWl
              have HO := open_does p d frm many first sec Wd u hdn hm1 (by rw [hD.now]; exact hfm) (by rw [hD.now]; omega) HD.out hfi1 hfi2 hsec hsc
              have HWL := Lib.hid hWl
              have HU := Lib.hid hU
              have HGET := Lib.hid hget
              have HS96 := Lib.hid hs96
              clear hWl hU hget hs96 hsec hbad
              ((try clear hf); have hf := hO.facts; (try simp only [FX, Nat.zero_add, Nat.reduceAdd, and_true, true_and, List.map_cons, List.map_nil, List.cons_append, List.nil_append] at hf))
              go_wp2_with (first | (go_at_call 15; (with_reducible apply Reads.use hO (HSC); (focus (repeat (first | with_reducible exact Takes.nil _ | with_reducible apply Takes.cons | with_reducible exact Pick.here _ _ | with_reducible apply Pick.there))); clear hO; intro w9 hx9 hO; clear hx9; dsimp only; ((try clear hf); have hf := hO.facts; (try simp only [FX, Nat.zero_add, Nat.reduceAdd, and_true, true_and, List.map_cons, List.map_nil, List.cons_append, List.nil_append] at hf)))) | (go_at_call 14; (with_reducible refine Does.use hO (HO) (by repeat (first | with_reducible exact Takes.nil _ | with_reducible apply Takes.cons | with_reducible exact Pick.here _ _ | with_reducible apply Pick.there)) ?_; clear hO; intro x9 w9 hO; dsimp only at hO ⊢; simp only [List.cons_append, List.nil_append] at hO; ((try clear hf); have hf := hO.facts; (try simp only [FX, Nat.zero_add, Nat.reduceAdd, and_true, true_and, List.map_cons, List.map_nil, List.cons_append, List.nil_append] at hf)); (obtain ⟨q, ⟨oa, oc⟩, D⟩ := x9; dsimp only at hO ⊢; ((try clear hf); have hf := hO.facts; (try simp only [FX, Nat.zero_add, Nat.reduceAdd, and_true, true_and, List.map_cons, List.map_nil, List.cons_append, List.nil_append] at hf))))) | ((first | with_reducible refine wpList_alloc_own hO ?_ | with_reducible refine wpList_drew_own hO ?_ | with_reducible refine wp_alloc_own hO ?_ | with_reducible refine wp_drew_own hO ?_ | with_reducible refine bodyPost_alloc_own hO ?_ | with_reducible refine bodyPost_drew_own hO ?_ | ((first | with_reducible apply wpList_set_own | with_reducible apply wp_set_own | with_reducible apply bodyPost_set_own); (focus (first | (with_reducible apply Own.set; (focus (with_reducible apply hO)); (repeat (first | with_reducible exact Put.here _ _ _ | with_reducible apply Put.there)); done) | (with_reducible apply Own.setRow; (focus (with_reducible apply hO)); (focus (repeat (first | with_reducible exact Put.here _ _ _ | with_reducible apply Put.there))); first | assumption | (simp; omega) | (simp; assumption)) | ((repeat' (first | with_reducible apply hO | with_reducible apply Own.set)); all_goals (repeat (first | with_reducible exact Put.here _ _ _ | with_reducible apply Put.there)); done))))); clear hO; intro w9 hO; (try dsimp only [List.set] at hO); ((try clear hf); have hf := hO.facts; (try simp only [FX, Nat.zero_add, Nat.reduceAdd, and_true, true_and, List.map_cons, List.map_nil, List.cons_append, List.nil_append] at hf))))
              all_goals try (exfalso; omega; done)
              have hDW := Own.pureOf (p := dss D = Wd) hO (by repeat (first | with_reducible exact Pick.here _ _ | with_reducible apply Pick.there))
              replace hO := hO.dl (a := oa) (n := D.length) (c := oc) (D := D) (by repeat (first | with_reducible exact Takes.nil _ | with_reducible apply Takes.cons | with_reducible exact Pick.here _ _ | with_reducible apply Pick.there))
              obtain ⟨iS, hiS, hzS, hsS, hbS⟩ := info_parts Tryd.infoStr
              obtain ⟨iD, hiD, hzD, hsD, hbD⟩ := info_parts Tryd.infoChs
              rename World => w4
              have hO9 := (hO.nil 9 1)
              have HDW := Lib.hid hDW
              clear hO hf HO hDW
              go_loopw [18, 19] (fun v18 v19 wr => ∃ (i nc : Nat) (na : Option Addr), v18 = .slice na i nc ∧ v19 = .int .i64 i ∧ i ≤ many ∧ Own (fun _ => False) W wr [Row2 9 1 na i nc ((sec.take i).map .string), DiskR p d, Var q [.pointer (some ⟨p, 0, none⟩), .int .i64 frm, .int .i64 many, .int .i64 first, .int .i64 u] 108, .imm (fun w => DLAt w oa D), .imm LibOk, .imm (LsArg sa ss aa l)]) (fun _ v _ => many - (intOf v).toNat)
              case atStart => exact ⟨0, 0, none, rfl, rfl, by omega, (by rw [show (sec.take 0).map Value.string = [] from rfl]; exact hO9.cut (by repeat (first | with_reducible apply Sub.cons | with_reducible exact Pick.here _ _ | with_reducible apply Pick.there | with_reducible apply Sub.base | with_reducible exact Keeps.here _ | with_reducible apply Keeps.skip)))⟩
              case round =>
                clear hO9
                obtain ⟨i, nc, na, rfl, rfl, hi3, hO⟩ := hrel
                rename World => w5
                by_cases hlt3 : i < many
                · have HRD := read_at (p := p) hdn (HGET.out i hlt3)
                  rw [show ((frm + i : Nat) : Int) = (frm : Int) + i from by omega] at HRD
                  have hsuc : (sec.take (i + 1)).map Value.string = (sec.take i).map Value.string ++ [.string (sec[i]'(by omega))] := by rw [List.take_succ_eq_append_getElem (by omega), List.map_append]; rfl
                  generalize (sec[i]'(by omega)) = s at *
                  ((try clear hf); have hf := hO.facts; (try simp only [FX, Nat.zero_add, Nat.reduceAdd, and_true, true_and, List.map_cons, List.map_nil, List.cons_append, List.nil_append] at hf))
                  go_wp2_with (first | (go_at_call 17; (with_reducible apply Reads.use hO (HRD); (focus (repeat (first | with_reducible exact Takes.nil _ | with_reducible apply Takes.cons | with_reducible exact Pick.here _ _ | with_reducible apply Pick.there))); clear hO; intro w9 hx9 hO; clear hx9; dsimp only; ((try clear hf); have hf := hO.facts; (try simp only [FX, Nat.zero_add, Nat.reduceAdd, and_true, true_and, List.map_cons, List.map_nil, List.cons_append, List.nil_append] at hf)))) | (at_builtin; (refine wpList_append_var hO (by repeat (first | with_reducible exact Pick.here _ _ | with_reducible apply Pick.there)) (by repeat (first | with_reducible exact Pick.here _ _ | with_reducible apply Pick.there)) rfl (.tmp 147) (.tmp 149) 22 rfl iS _ 16 Tryd.underlying22 hiS hzS hsS hbS rfl (by omega) rfl _ _ rfl (by rfl) (by repeat (first | exact ones_nil | refine ones_cons rfl ?_)) (by unfold maxLen; omega) (by omega) ?_; clear hO; intro ka9 kc9 w9 hO; ((try clear hf); have hf := hO.facts; (try simp only [FX, Nat.zero_add, Nat.reduceAdd, and_true, true_and, List.map_cons, List.map_nil, List.cons_append, List.nil_append] at hf)))) | ((first | with_reducible refine wpList_alloc_own hO ?_ | with_reducible refine wpList_drew_own hO ?_ | with_reducible refine wp_alloc_own hO ?_ | with_reducible refine wp_drew_own hO ?_ | with_reducible refine bodyPost_alloc_own hO ?_ | with_reducible refine bodyPost_drew_own hO ?_ | ((first | with_reducible apply wpList_set_own | with_reducible apply wp_set_own | with_reducible apply bodyPost_set_own); (focus (first | (with_reducible apply Own.set; (focus (with_reducible apply hO)); (repeat (first | with_reducible exact Put.here _ _ _ | with_reducible apply Put.there)); done) | (with_reducible apply Own.setRow; (focus (with_reducible apply hO)); (focus (repeat (first | with_reducible exact Put.here _ _ _ | with_reducible apply Put.there))); first | assumption | (simp; omega) | (simp; assumption)) | ((repeat' (first | with_reducible apply hO | with_reducible apply Own.set)); all_goals (repeat (first | with_reducible exact Put.here _ _ _ | with_reducible apply Put.there)); done))))); clear hO; intro w9 hO; (try dsimp only [List.set] at hO); ((try clear hf); have hf := hO.facts; (try simp only [FX, Nat.zero_add, Nat.reduceAdd, and_true, true_and, List.map_cons, List.map_nil, List.cons_append, List.nil_append] at hf))))
                  refine ⟨⟨i + 1, kc9, ka9, rfl, by go_num, by omega, ?_⟩, by simp [intOf]; omega⟩
                  rw [hsuc]
                  exact hO.cut (by repeat (first | with_reducible apply Sub.cons | with_reducible exact Pick.here _ _ | with_reducible apply Pick.there | with_reducible apply Sub.base | with_reducible exact Keeps.here _ | with_reducible apply Keeps.skip))
                · obtain rfl : i = many := by omega
                  rw [List.take_of_length_le (by omega)] at hO
                  replace hO := hO.rowImm (a := na) (n := i) (c := nc) (xs := sec.map .string) (by repeat (first | with_reducible exact Pick.here _ _ | with_reducible apply Pick.there))
                  have HCL := closed_does na i nc first sec Wd u hsl2 (by omega) HS96.out (by omega) hsc (φ := fun w => ValsAt w na (sec.map .string)) fun _ h => h
                  ((try clear hf); have hf := hO.facts; (try simp only [FX, Nat.zero_add, Nat.reduceAdd, and_true, true_and, List.map_cons, List.map_nil, List.cons_append, List.nil_append] at hf))
                  go_wp2_with (first | (go_at_call 18; (with_reducible refine Does.use hO (HCL) (by repeat (first | with_reducible exact Takes.nil _ | with_reducible apply Takes.cons | with_reducible exact Pick.here _ _ | with_reducible apply Pick.there)) ?_; clear hO; intro x9 w9 hO; dsimp only at hO ⊢; simp only [List.cons_append, List.nil_append] at hO; ((try clear hf); have hf := hO.facts; (try simp only [FX, Nat.zero_add, Nat.reduceAdd, and_true, true_and, List.map_cons, List.map_nil, List.cons_append, List.nil_append] at hf)); (obtain ⟨⟨wa, wc⟩, E⟩ := x9; dsimp only at hO ⊢; ((try clear hf); have hf := hO.facts; (try simp only [FX, Nat.zero_add, Nat.reduceAdd, and_true, true_and, List.map_cons, List.map_nil, List.cons_append, List.nil_append] at hf))))) | ((first | with_reducible refine wpList_alloc_own hO ?_ | with_reducible refine wpList_drew_own hO ?_ | with_reducible refine wp_alloc_own hO ?_ | with_reducible refine wp_drew_own hO ?_ | with_reducible refine bodyPost_alloc_own hO ?_ | with_reducible refine bodyPost_drew_own hO ?_ | ((first | with_reducible apply wpList_set_own | with_reducible apply wp_set_own | with_reducible apply bodyPost_set_own); (focus (first | (with_reducible apply Own.set; (focus (with_reducible apply hO)); (repeat (first | with_reducible exact Put.here _ _ _ | with_reducible apply Put.there)); done) | (with_reducible apply Own.setRow; (focus (with_reducible apply hO)); (focus (repeat (first | with_reducible exact Put.here _ _ _ | with_reducible apply Put.there))); first | assumption | (simp; omega) | (simp; assumption)) | ((repeat' (first | with_reducible apply hO | with_reducible apply Own.set)); all_goals (repeat (first | with_reducible exact Put.here _ _ _ | with_reducible apply Put.there)); done))))); clear hO; intro w9 hO; (try dsimp only [List.set] at hO); ((try clear hf); have hf := hO.facts; (try simp only [FX, Nat.zero_add, Nat.reduceAdd, and_true, true_and, List.map_cons, List.map_nil, List.cons_append, List.nil_append] at hf))))
                  have hEW := Own.pureOf (p := dss E = Wd) hO (by repeat (first | with_reducible exact Pick.here _ _ | with_reducible apply Pick.there))
                  replace hO := hO.dl (a := wa) (n := E.length) (c := wc) (D := E) (by repeat (first | with_reducible exact Takes.nil _ | with_reducible apply Takes.cons | with_reducible exact Pick.here _ _ | with_reducible apply Pick.there))
                  have hO9 := hO
                  have HEW := Lib.hid hEW
                  clear hO hf HCL hEW
                  go_loopw [16, 17, 22, 23, 24] (fun v16 v17 v22 v23 v24 wr => ∃ (j q u oc wc : Nat) (oa wa : Option Addr) (D E : List DV) (d : Dk) (Wd : List (List Ch)), v16 = .pointer (some ⟨q, 0, none⟩) ∧ v17 = .slice oa D.length oc ∧ v22 = .slice wa E.length wc ∧ v23 = .int .i64 u ∧ v24 = .int .i64 j ∧ j ≤ m ∧
                    Hid (dss D = Wd ∧ dss E = Wd ∧ LogUp k d frm i first Wd u ∧ Wd.length ≤ i + j ∧ ∀ x ∈ Wd, x.length ≤ 1000) ∧ Own (fun _ => False) W wr [DiskR p d, Var q [.pointer (some ⟨p, 0, none⟩), .int .i64 frm, .int .i64 i, .int .i64 first, .int .i64 u] 108, .imm (fun w => DLAt w oa D), .imm (fun w => DLAt w wa E), .imm LibOk, .imm (LsArg sa ss aa l)]) (fun _ _ _ _ v _ => m + 1 - (intOf v).toNat)
                  case atStart => exact ⟨0, q, u, oc, wc, oa, wa, D, E, d, Wd, rfl, rfl, rfl, rfl, rfl, by omega, Lib.hid ⟨HDW.out, HEW.out, HU.out, by have := HWL.out.1; omega, fun x hx => by have := HWL.out.2 x hx; omega⟩, hO9.cut (by repeat (first | with_reducible apply Sub.cons | with_reducible exact Pick.here _ _ | with_reducible apply Pick.there | with_reducible apply Sub.base | with_reducible exact Keeps.here _ | with_reducible apply Keeps.skip))⟩
                  case round =>
                    clear hO9 HDW HEW HU HWL HGET HS96 HD hdn hD hfu hsc HSC
                    obtain ⟨j, q, u, oc, wc, oa, wa, D, E, d, Wd, rfl, rfl, rfl, rfl, rfl, hj, HI, hO⟩ := hrel
                    rename World => w6
                    obtain ⟨hDW, hEW, hU, hWn, hWx⟩ := HI.out
                    have hDn : D.length = Wd.length := by rw [← hDW]; simp [dss]
                    have hEn : E.length = Wd.length := by rw [← hEW]; simp [dss]
                    have hdm : ∀ x ∈ D, x.2.2.length ≤ 1000 := fun x hx => hWx _ (by rw [← hDW]; exact List.mem_map.2 ⟨x, hx, rfl⟩)
                    have hui := hU.on.used
                    have HSD := fun w => sdeeds_does oa wa Wd.length oc wc D E w hDn hEn (by omega) (hDW.trans hEW.symm) hdm
                    rw [hDn, hEn]
                    have HRM := room_reads p q frm i first u (by omega) (by omega)
                    have HNX := next_reads p q frm i first u (by omega) (by omega)
                    clear hdm hDW hEW
                    ((try clear hf); have hf := hO.facts; (try simp only [FX, Nat.zero_add, Nat.reduceAdd, and_true, true_and, List.map_cons, List.map_nil, List.cons_append, List.nil_append] at hf))
                    by_cases hlt4 : j < m
                    · have hj2 : j < l.length := by omega
                      have hA0 := (Own.immOf (φ := LsArg sa ss aa l) hO (by repeat (first | with_reducible exact Pick.here _ _ | with_reducible apply Pick.there))).2.2
                      have hxl := List.getElem_mem hj2
                      obtain ⟨hxs, hxt, hxn, hxc, _⟩ := lightActs_at hli hxl
                      have hch := fun w (h : LsArg sa ss aa l w) => ActsAt.chs h.2.2 hxl
                      rcases hA0.1 with h0 | ⟨b, off, rfl, hc⟩
                      · rw [h0] at hj2; simp at hj2
                      have hcell := fun w (h : LsArg sa ss (some ⟨b, off, none⟩) l w) => show AcAt w b (off + j * 9) l[j] from by
                        rcases h.2.2.1 with h0 | ⟨b', off', he, hc⟩
                        · rw [h0] at hj2; simp at hj2
                        · simp only [Option.some.injEq, Addr.mk.injEq, and_true] at he
                          obtain ⟨rfl, rfl⟩ := he
                          exact hc j hj2
                      clear hc hA0 hxl hxs hxt
                      generalize l[j] = x at *
                      obtain ⟨xkind, xA, xB, xC, xK, xS, xT, xcp, xcc, xch, xsp, xsc, xspn⟩ := x
                      dsimp only at *
                      clear hφ
                      cases hkind : xkind.toList == [97, 100, 100] with
                      | false =>
                        have HO := open_does p d frm i first _ Wd u hU.on.up hm1 (by rw [hU.ok.now]; exact hfm) (by rw [hU.ok.now]; omega) hU.full hfi1 hfi2 rfl hU.on.sc
                        have HI2 := fun (D' : List DV) (h : dss D' = Wd) => Lib.hid (show dss D' = Wd ∧ dss E = Wd ∧ LogUp k d frm i first Wd u ∧ Wd.length ≤ i + (j + 1) ∧ ∀ x ∈ Wd, x.length ≤ 1000 from ⟨h, HI.out.2.1, hU, by omega, hWx⟩)
                        clear HI hU hWx
                        go_wp2_with (first | (go_at_call 19; (with_reducible apply Calls.mono (HSD _ (Own.immOf (φ := fun w => DLAt w oa D) hO (by repeat (first | with_reducible exact Pick.here _ _ | with_reducible apply Pick.there))) (Own.immOf (φ := fun w => DLAt w wa E) hO (by repeat (first | with_reducible exact Pick.here _ _ | with_reducible apply Pick.there)))); rintro e8 w8 ⟨rfl, hx8⟩; replace hO := hO.ext hx8; clear hx8; dsimp only; ((try clear hf); have hf := hO.facts; (try simp only [FX, Nat.zero_add, Nat.reduceAdd, and_true, true_and, List.map_cons, List.map_nil, List.cons_append, List.nil_append] at hf)))) | (go_at_call 20; (with_reducible apply Reads.use hO (HRM); (focus (repeat (first | with_reducible exact Takes.nil _ | with_reducible apply Takes.cons | with_reducible exact Pick.here _ _ | with_reducible apply Pick.there))); clear hO; intro w9 hx9 hO; clear hx9; dsimp only; ((try clear hf); have hf := hO.facts; (try simp only [FX, Nat.zero_add, Nat.reduceAdd, and_true, true_and, List.map_cons, List.map_nil, List.cons_append, List.nil_append] at hf)))) | (go_at_call 21; (with_reducible apply Reads.use hO (HNX); (focus (repeat (first | with_reducible exact Takes.nil _ | with_reducible apply Takes.cons | with_reducible exact Pick.here _ _ | with_reducible apply Pick.there))); clear hO; intro w9 hx9 hO; clear hx9; dsimp only; ((try clear hf); have hf := hO.facts; (try simp only [FX, Nat.zero_add, Nat.reduceAdd, and_true, true_and, List.map_cons, List.map_nil, List.cons_append, List.nil_append] at hf)); (have hk9 := hcell _ (Own.immOf (φ := LsArg sa ss (some ⟨b, off, none⟩) l) hO (by repeat (first | with_reducible exact Pick.here _ _ | with_reducible apply Pick.there))); obtain ⟨k0, k1, k2, k3, k4, k5, k6, k7, k8⟩ := hk9))) | (go_at_call 14; (with_reducible refine Does.use hO (HO) (by repeat (first | with_reducible exact Takes.nil _ | with_reducible apply Takes.cons | with_reducible exact Pick.here _ _ | with_reducible apply Pick.there)) ?_; clear hO; intro x9 w9 hO; dsimp only at hO ⊢; simp only [List.cons_append, List.nil_append] at hO; ((try clear hf); have hf := hO.facts; (try simp only [FX, Nat.zero_add, Nat.reduceAdd, and_true, true_and, List.map_cons, List.map_nil, List.cons_append, List.nil_append] at hf)); (obtain ⟨q', ⟨oa', oc'⟩, D'⟩ := x9; dsimp only at hO ⊢; ((try clear hf); have hf := hO.facts; (try simp only [FX, Nat.zero_add, Nat.reduceAdd, and_true, true_and, List.map_cons, List.map_nil, List.cons_append, List.nil_append] at hf))))) | ((first | with_reducible refine wpList_alloc_own hO ?_ | with_reducible refine wpList_drew_own hO ?_ | with_reducible refine wp_alloc_own hO ?_ | with_reducible refine wp_drew_own hO ?_ | with_reducible refine bodyPost_alloc_own hO ?_ | with_reducible refine bodyPost_drew_own hO ?_ | ((first | with_reducible apply wpList_set_own | with_reducible apply wp_set_own | with_reducible apply bodyPost_set_own); (focus (first | (with_reducible apply Own.set; (focus (with_reducible apply hO)); (repeat (first | with_reducible exact Put.here _ _ _ | with_reducible apply Put.there)); done) | (with_reducible apply Own.setRow; (focus (with_reducible apply hO)); (focus (repeat (first | with_reducible exact Put.here _ _ _ | with_reducible apply Put.there))); first | assumption | (simp; omega) | (simp; assumption)) | ((repeat' (first | with_reducible apply hO | with_reducible apply Own.set)); all_goals (repeat (first | with_reducible exact Put.here _ _ _ | with_reducible apply Put.there)); done))))); clear hO; intro w9 hO; (try dsimp only [List.set] at hO); ((try clear hf); have hf := hO.facts; (try simp only [FX, Nat.zero_add, Nat.reduceAdd, and_true, true_and, List.map_cons, List.map_nil, List.cons_append, List.nil_append] at hf))))
                        all_goals try (exfalso; omega; done)
                        have hDW := Own.pureOf (p := dss D' = Wd) hO (by repeat (first | with_reducible exact Pick.here _ _ | with_reducible apply Pick.there))
                        replace hO := hO.dl (a := oa') (n := D'.length) (c := oc') (D := D') (by repeat (first | with_reducible exact Takes.nil _ | with_reducible apply Takes.cons | with_reducible exact Pick.here _ _ | with_reducible apply Pick.there))
                        refine ⟨⟨j + 1, q', u, oc', wc, oa', wa, D', E, d, Wd, rfl, rfl, by rw [hEn], rfl, by go_num, by omega, HI2 D' hDW, hO.cut (by repeat (first | with_reducible apply Sub.cons | with_reducible exact Pick.here _ _ | with_reducible apply Pick.there | with_reducible apply Sub.base | with_reducible exact Keeps.here _ | with_reducible apply Keeps.skip))⟩, by simp [intOf]; omega⟩
                      | true =>
                        have HF := fun w (h : LsArg sa ss (some ⟨b, off, none⟩) l w) => addFault_any xcp xch.length xcc xch ((i : Int) - u) w rfl (by omega) (fun c hc => ⟨by have := (hxc c hc).1; omega, by have := (hxc c hc).2; omega⟩) (hch w h)
                        have HSE := same_self (addN xch ((i : Int) - u)) (by have := addN_le xch ((i : Int) - u); omega)
                        by_cases hz : addN xch ((i : Int) - u) = 0
                        · obtain ⟨hx12, hroom, hok⟩ := addN_zero.1 hz
                          have HA := add_does p q d k 1000 frm i first u xcp xch.length xcc xch hU.ok (by omega) rfl hx12 hok (by omega) hfm (by omega) (by omega) (φ := LsArg sa ss (some ⟨b, off, none⟩) l) fun w h => ⟨h.1, hch w h⟩
                          obtain ⟨d', hd', hU'⟩ := hU.add hok hfi1 (by omega) (by omega)
                          rw [hd'] at HA
                          dsimp only at HA
                          rw [hz] at HF HSE
                          rw [show ((0 : Nat) : Int) = 0 from rfl] at HF HSE
                          rw [show errV 0 = .nilIface from rfl] at HA HSE
                          rw [show usedA 0 u xch.length = u + xch.length + 1 from rfl] at HA
                          have HI2 := Lib.hid (show dss (E ++ [(xcp, xcc, xch)]) = Wd ++ [xch] ∧ dss (E ++ [(xcp, xcc, xch)]) = Wd ++ [xch] ∧ LogUp k d' frm i first (Wd ++ [xch]) (u + xch.length + 1) ∧ (Wd ++ [xch]).length ≤ i + (j + 1) ∧ ∀ x ∈ Wd ++ [xch], x.length ≤ 1000 from
                            have e : dss (E ++ [(xcp, xcc, xch)]) = Wd ++ [xch] := by rw [dss, List.map_append, ← HI.out.2.1]; rfl
                            ⟨e, e, hU', by rw [List.length_append, List.length_singleton]; omega, fun x hx => by
                              rcases List.mem_append.1 hx with hx | hx
                              · exact hWx x hx
                              · rw [List.mem_singleton.1 hx]; omega⟩)
                          clear HI hU hU' hWx hd' hok hxc hz
                          go_wp2_with (first | (go_at_call 19; (with_reducible apply Calls.mono (HSD _ (Own.immOf (φ := fun w => DLAt w oa D) hO (by repeat (first | with_reducible exact Pick.here _ _ | with_reducible apply Pick.there))) (Own.immOf (φ := fun w => DLAt w wa E) hO (by repeat (first | with_reducible exact Pick.here _ _ | with_reducible apply Pick.there)))); rintro e8 w8 ⟨rfl, hx8⟩; replace hO := hO.ext hx8; clear hx8; dsimp only; ((try clear hf); have hf := hO.facts; (try simp only [FX, Nat.zero_add, Nat.reduceAdd, and_true, true_and, List.map_cons, List.map_nil, List.cons_append, List.nil_append] at hf)))) | (go_at_call 20; (with_reducible apply Reads.use hO (HRM); (focus (repeat (first | with_reducible exact Takes.nil _ | with_reducible apply Takes.cons | with_reducible exact Pick.here _ _ | with_reducible apply Pick.there))); clear hO; intro w9 hx9 hO; clear hx9; dsimp only; ((try clear hf); have hf := hO.facts; (try simp only [FX, Nat.zero_add, Nat.reduceAdd, and_true, true_and, List.map_cons, List.map_nil, List.cons_append, List.nil_append] at hf)))) | (go_at_call 21; (with_reducible apply Reads.use hO (HNX); (focus (repeat (first | with_reducible exact Takes.nil _ | with_reducible apply Takes.cons | with_reducible exact Pick.here _ _ | with_reducible apply Pick.there))); clear hO; intro w9 hx9 hO; clear hx9; dsimp only; ((try clear hf); have hf := hO.facts; (try simp only [FX, Nat.zero_add, Nat.reduceAdd, and_true, true_and, List.map_cons, List.map_nil, List.cons_append, List.nil_append] at hf)); (have hk9 := hcell _ (Own.immOf (φ := LsArg sa ss (some ⟨b, off, none⟩) l) hO (by repeat (first | with_reducible exact Pick.here _ _ | with_reducible apply Pick.there))); obtain ⟨k0, k1, k2, k3, k4, k5, k6, k7, k8⟩ := hk9))) | (go_at_call 22; (with_reducible apply Calls.mono (HF _ (Own.immOf (φ := LsArg sa ss (some ⟨b, off, none⟩) l) hO (by repeat (first | with_reducible exact Pick.here _ _ | with_reducible apply Pick.there)))); rintro e8 w8 ⟨rfl, hx8⟩; replace hO := hO.ext hx8; clear hx8; dsimp only; ((try clear hf); have hf := hO.facts; (try simp only [FX, Nat.zero_add, Nat.reduceAdd, and_true, true_and, List.map_cons, List.map_nil, List.cons_append, List.nil_append] at hf)))) | (go_at_call 23; (with_reducible apply Does.use hO (HA); (focus (repeat (first | with_reducible exact Takes.nil _ | with_reducible apply Takes.cons | with_reducible exact Pick.here _ _ | with_reducible apply Pick.there))); clear hO; intro x9 w9 hO; dsimp only at hO ⊢; simp only [List.cons_append, List.nil_append] at hO; ((try clear hf); have hf := hO.facts; (try simp only [FX, Nat.zero_add, Nat.reduceAdd, and_true, true_and, List.map_cons, List.map_nil, List.cons_append, List.nil_append] at hf)))) | (go_at_call 16; (with_reducible apply Calls.mono (HSE _); rintro e8 w8 ⟨rfl, rfl⟩; dsimp only)) | ((first | with_reducible refine wpList_alloc_own hO ?_ | with_reducible refine wpList_drew_own hO ?_ | with_reducible refine wp_alloc_own hO ?_ | with_reducible refine wp_drew_own hO ?_ | with_reducible refine bodyPost_alloc_own hO ?_ | with_reducible refine bodyPost_drew_own hO ?_ | ((first | with_reducible apply wpList_set_own | with_reducible apply wp_set_own | with_reducible apply bodyPost_set_own); (focus (first | (with_reducible apply Own.set; (focus (with_reducible apply hO)); (repeat (first | with_reducible exact Put.here _ _ _ | with_reducible apply Put.there)); done) | (with_reducible apply Own.setRow; (focus (with_reducible apply hO)); (focus (repeat (first | with_reducible exact Put.here _ _ _ | with_reducible apply Put.there))); first | assumption | (simp; omega) | (simp; assumption)) | ((repeat' (first | with_reducible apply hO | with_reducible apply Own.set)); all_goals (repeat (first | with_reducible exact Put.here _ _ _ | with_reducible apply Put.there)); done))))); clear hO; intro w9 hO; (try dsimp only [List.set] at hO); ((try clear hf); have hf := hO.facts; (try simp only [FX, Nat.zero_add, Nat.reduceAdd, and_true, true_and, List.map_cons, List.map_nil, List.cons_append, List.nil_append] at hf))))
                          all_goals try (exfalso; omega; done)
                          replace hO := hO.nil 44 1
                          refine wp_region_plan [0, 2, 6] (.pure 0 <| .pure 2 <| .fork 1 (.one 3 <| .one 4 <| .one 5 <| .pure 6 .done) 3 (.fork 1 (.one 4 <| .one 5 <| .pure 6 .done) 4 (.one 1 <| .one 5 <| .pure 6 .done))) (by kernel_rfl) (by kernel_rfl) (fun _ _ d _ _ h => by cases d <;> exact h) ?_
                          intro w9 hx9; replace hO := hO.ext hx9; clear hx9
                          ((try clear hf); have hf := hO.facts; (try simp only [FX, Nat.zero_add, Nat.reduceAdd, and_true, true_and, List.map_cons, List.map_nil, List.cons_append, List.nil_append] at hf))
                          (repeat (first | (apply inPlan_p _ rfl rfl rfl; focus (intro w8 K8 hK8; (repeat (first | go_skip | go_guarded | go_step)); exact hK8))))
                          refine inPlan_fork rfl rfl ?_ ?_
                          · (intro K8 hK8; (refine wpList_append_src hO (va := none) (n := 0) (vc := 0) (xs := []) (by repeat (first | with_reducible exact Pick.here _ _ | with_reducible apply Pick.there)) rfl _ (.tmp 224) 33 rfl iD _ 24 Tryd.underlying33 hiD hzD hsD hbD rfl (by omega) rfl wa Wd.length wc (E.map dv) rfl (by simp; omega) (Own.immOf (φ := fun w => DLAt w wa E) hO (by repeat (first | with_reducible exact Pick.here _ _ | with_reducible apply Pick.there))).1 (ones_map (fun _ => rfl) _) (by unfold maxLen; omega) (by omega) ?_); clear hO; intro kb9 kd9 w9 hO; simp only [Nat.zero_add, List.nil_append] at hO ⊢; ((try clear hf); have hf := hO.facts; (try simp only [FX, Nat.zero_add, Nat.reduceAdd, and_true, true_and, List.map_cons, List.map_nil, List.cons_append, List.nil_append] at hf)); (repeat go_step))
                            refine inPlan_one rfl ?_
                            (intro K8 hK8; (repeat (first | go_skip | go_guarded | go_step)))
                            refine inPlan_one rfl ?_
                            (intro K8 hK8; (repeat (first | go_skip | go_guarded | go_step)); with_reducible refine inPlan_alloc_own hO ?_; clear hO; intro w9 hO; ((try clear hf); have hf := hO.facts; (try simp only [FX, Nat.zero_add, Nat.reduceAdd, and_true, true_and, List.map_cons, List.map_nil, List.cons_append, List.nil_append] at hf)))
                            refine inPlan_one rfl ?_
                            (intro K8 hK8; refine wpList_append_var hO (by repeat (first | with_reducible exact Pick.here _ _ | with_reducible apply Pick.there)) (by repeat (first | with_reducible exact Pick.here _ _ | with_reducible apply Pick.there)) rfl (.tmp 225) (.tmp 228) 33 rfl iD _ 24 Tryd.underlying33 hiD hzD hsD hbD rfl (by omega) rfl _ _ rfl (by rfl) (by repeat (first | exact ones_nil | refine ones_cons rfl ?_)) (by unfold maxLen; omega) (by omega) ?_; clear hO; intro ka9 kc9 w9 hO; ((try clear hf); have hf := hO.facts; (try simp only [FX, Nat.zero_add, Nat.reduceAdd, and_true, true_and, List.map_cons, List.map_nil, List.cons_append, List.nil_append] at hf)); (repeat go_step))
                            (repeat (first | (apply inPlan_p _ rfl rfl rfl; focus (intro w8 K8 hK8; (repeat (first | go_skip | go_guarded | go_step)); exact hK8))))
                            refine inPlan_done ?_
                            go_wp2_with (first | ((first | with_reducible refine wpList_alloc_own hO ?_ | with_reducible refine wpList_drew_own hO ?_ | with_reducible refine wp_alloc_own hO ?_ | with_reducible refine wp_drew_own hO ?_ | with_reducible refine bodyPost_alloc_own hO ?_ | with_reducible refine bodyPost_drew_own hO ?_ | ((first | with_reducible apply wpList_set_own | with_reducible apply wp_set_own | with_reducible apply bodyPost_set_own); (focus (first | (with_reducible apply Own.set; (focus (with_reducible apply hO)); (repeat (first | with_reducible exact Put.here _ _ _ | with_reducible apply Put.there)); done) | (with_reducible apply Own.setRow; (focus (with_reducible apply hO)); (focus (repeat (first | with_reducible exact Put.here _ _ _ | with_reducible apply Put.there))); first | assumption | (simp; omega) | (simp; assumption)) | ((repeat' (first | with_reducible apply hO | with_reducible apply Own.set)); all_goals (repeat (first | with_reducible exact Put.here _ _ _ | with_reducible apply Put.there)); done))))); clear hO; intro w9 hO; (try dsimp only [List.set] at hO); ((try clear hf); have hf := hO.facts; (try simp only [FX, Nat.zero_add, Nat.reduceAdd, and_true, true_and, List.map_cons, List.map_nil, List.cons_append, List.nil_append] at hf))))
                            replace hO := hO.take (rs := [Row2 44 1 ka9 (Wd.length + 1) kc9 (E.map dv ++ [.slice xcp xch.length xcc]), .imm (fun w => DLAt w wa E), .imm (LsArg sa ss (some ⟨b, off, none⟩) l)]) (by repeat (first | with_reducible exact Takes.nil _ | with_reducible apply Takes.cons | with_reducible exact Pick.here _ _ | with_reducible apply Pick.there))
                            simp only [List.cons_append, List.nil_append] at hO
                            replace hO := (hO.dlAdd hch).again
                            have hle : (E ++ [(xcp, xcc, xch)]).length = Wd.length + 1 := by rw [List.length_append, hEn]; rfl
                            exact ⟨⟨j + 1, q, u + xch.length + 1, kc9, kc9, ka9, ka9, E ++ [(xcp, xcc, xch)], E ++ [(xcp, xcc, xch)], d', Wd ++ [xch], rfl, by rw [hle], by rw [hle], by go_num, by go_num, by omega, HI2, hO.cut (by repeat (first | with_reducible apply Sub.cons | with_reducible exact Pick.here _ _ | with_reducible apply Pick.there | with_reducible apply Sub.base | with_reducible exact Keeps.here _ | with_reducible apply Keeps.skip))⟩, by simp [intOf]; omega⟩
                          · (intro K8 hK8; (repeat (first | go_skip | go_guarded | go_step)))
                            refine inPlan_fork rfl rfl ?_ ?_
                            · (intro K8 hK8; (refine wpList_append_src hO (va := none) (n := 0) (vc := 0) (xs := []) (by repeat (first | with_reducible exact Pick.here _ _ | with_reducible apply Pick.there)) rfl _ (.tmp 224) 33 rfl iD _ 24 Tryd.underlying33 hiD hzD hsD hbD rfl (by omega) rfl wa Wd.length wc (E.map dv) rfl (by simp; omega) (Own.immOf (φ := fun w => DLAt w wa E) hO (by repeat (first | with_reducible exact Pick.here _ _ | with_reducible apply Pick.there))).1 (ones_map (fun _ => rfl) _) (by unfold maxLen; omega) (by omega) ?_); clear hO; intro kb9 kd9 w9 hO; simp only [Nat.zero_add, List.nil_append] at hO ⊢; ((try clear hf); have hf := hO.facts; (try simp only [FX, Nat.zero_add, Nat.reduceAdd, and_true, true_and, List.map_cons, List.map_nil, List.cons_append, List.nil_append] at hf)); (repeat go_step))
                              refine inPlan_one rfl ?_
                              (intro K8 hK8; (repeat (first | go_skip | go_guarded | go_step)); with_reducible refine inPlan_alloc_own hO ?_; clear hO; intro w9 hO; ((try clear hf); have hf := hO.facts; (try simp only [FX, Nat.zero_add, Nat.reduceAdd, and_true, true_and, List.map_cons, List.map_nil, List.cons_append, List.nil_append] at hf)))
                              refine inPlan_one rfl ?_
                              (intro K8 hK8; refine wpList_append_var hO (by repeat (first | with_reducible exact Pick.here _ _ | with_reducible apply Pick.there)) (by repeat (first | with_reducible exact Pick.here _ _ | with_reducible apply Pick.there)) rfl (.tmp 225) (.tmp 228) 33 rfl iD _ 24 Tryd.underlying33 hiD hzD hsD hbD rfl (by omega) rfl _ _ rfl (by rfl) (by repeat (first | exact ones_nil | refine ones_cons rfl ?_)) (by unfold maxLen; omega) (by omega) ?_; clear hO; intro ka9 kc9 w9 hO; ((try clear hf); have hf := hO.facts; (try simp only [FX, Nat.zero_add, Nat.reduceAdd, and_true, true_and, List.map_cons, List.map_nil, List.cons_append, List.nil_append] at hf)); (repeat go_step))
                              (repeat (first | (apply inPlan_p _ rfl rfl rfl; focus (intro w8 K8 hK8; (repeat (first | go_skip | go_guarded | go_step)); exact hK8))))
                              refine inPlan_done ?_
                              go_wp2_with (first | ((first | with_reducible refine wpList_alloc_own hO ?_ | with_reducible refine wpList_drew_own hO ?_ | with_reducible refine wp_alloc_own hO ?_ | with_reducible refine wp_drew_own hO ?_ | with_reducible refine bodyPost_alloc_own hO ?_ | with_reducible refine bodyPost_drew_own hO ?_ | ((first | with_reducible apply wpList_set_own | with_reducible apply wp_set_own | with_reducible apply bodyPost_set_own); (focus (first | (with_reducible apply Own.set; (focus (with_reducible apply hO)); (repeat (first | with_reducible exact Put.here _ _ _ | with_reducible apply Put.there)); done) | (with_reducible apply Own.setRow; (focus (with_reducible apply hO)); (focus (repeat (first | with_reducible exact Put.here _ _ _ | with_reducible apply Put.there))); first | assumption | (simp; omega) | (simp; assumption)) | ((repeat' (first | with_reducible apply hO | with_reducible apply Own.set)); all_goals (repeat (first | with_reducible exact Put.here _ _ _ | with_reducible apply Put.there)); done))))); clear hO; intro w9 hO; (try dsimp only [List.set] at hO); ((try clear hf); have hf := hO.facts; (try simp only [FX, Nat.zero_add, Nat.reduceAdd, and_true, true_and, List.map_cons, List.map_nil, List.cons_append, List.nil_append] at hf))))
                              replace hO := hO.take (rs := [Row2 44 1 ka9 (Wd.length + 1) kc9 (E.map dv ++ [.slice xcp xch.length xcc]), .imm (fun w => DLAt w wa E), .imm (LsArg sa ss (some ⟨b, off, none⟩) l)]) (by repeat (first | with_reducible exact Takes.nil _ | with_reducible apply Takes.cons | with_reducible exact Pick.here _ _ | with_reducible apply Pick.there))
                              simp only [List.cons_append, List.nil_append] at hO
                              replace hO := (hO.dlAdd hch).again
                              have hle : (E ++ [(xcp, xcc, xch)]).length = Wd.length + 1 := by rw [List.length_append, hEn]; rfl
                              exact ⟨⟨j + 1, q, u + xch.length + 1, kc9, kc9, ka9, ka9, E ++ [(xcp, xcc, xch)], E ++ [(xcp, xcc, xch)], d', Wd ++ [xch], rfl, by rw [hle], by rw [hle], by go_num, by go_num, by omega, HI2, hO.cut (by repeat (first | with_reducible apply Sub.cons | with_reducible exact Pick.here _ _ | with_reducible apply Pick.there | with_reducible apply Sub.base | with_reducible exact Keeps.here _ | with_reducible apply Keeps.skip))⟩, by simp [intOf]; omega⟩

                            · (intro K8 hK8; (repeat (first | go_skip | go_guarded | go_step)); with_reducible refine inPlan_alloc_own hO ?_; clear hO; intro w9 hO; ((try clear hf); have hf := hO.facts; (try simp only [FX, Nat.zero_add, Nat.reduceAdd, and_true, true_and, List.map_cons, List.map_nil, List.cons_append, List.nil_append] at hf)))
                              refine inPlan_one rfl ?_
                              (intro K8 hK8; (refine wpList_append_src hO (va := none) (n := 0) (vc := 0) (xs := []) (by repeat (first | with_reducible exact Pick.here _ _ | with_reducible apply Pick.there)) rfl _ (.tmp 224) 33 rfl iD _ 24 Tryd.underlying33 hiD hzD hsD hbD rfl (by omega) rfl wa Wd.length wc (E.map dv) rfl (by simp; omega) (Own.immOf (φ := fun w => DLAt w wa E) hO (by repeat (first | with_reducible exact Pick.here _ _ | with_reducible apply Pick.there))).1 (ones_map (fun _ => rfl) _) (by unfold maxLen; omega) (by omega) ?_); clear hO; intro kb9 kd9 w9 hO; simp only [Nat.zero_add, List.nil_append] at hO ⊢; ((try clear hf); have hf := hO.facts; (try simp only [FX, Nat.zero_add, Nat.reduceAdd, and_true, true_and, List.map_cons, List.map_nil, List.cons_append, List.nil_append] at hf)); (repeat go_step))
                              refine inPlan_one rfl ?_
                              (intro K8 hK8; refine wpList_append_var hO (by repeat (first | with_reducible exact Pick.here _ _ | with_reducible apply Pick.there)) (by repeat (first | with_reducible exact Pick.here _ _ | with_reducible apply Pick.there)) rfl (.tmp 225) (.tmp 228) 33 rfl iD _ 24 Tryd.underlying33 hiD hzD hsD hbD rfl (by omega) rfl _ _ rfl (by rfl) (by repeat (first | exact ones_nil | refine ones_cons rfl ?_)) (by unfold maxLen; omega) (by omega) ?_; clear hO; intro ka9 kc9 w9 hO; ((try clear hf); have hf := hO.facts; (try simp only [FX, Nat.zero_add, Nat.reduceAdd, and_true, true_and, List.map_cons, List.map_nil, List.cons_append, List.nil_append] at hf)); (repeat go_step))
                              (repeat (first | (apply inPlan_p _ rfl rfl rfl; focus (intro w8 K8 hK8; (repeat (first | go_skip | go_guarded | go_step)); exact hK8))))
                              refine inPlan_done ?_
                              go_wp2_with (first | ((first | with_reducible refine wpList_alloc_own hO ?_ | with_reducible refine wpList_drew_own hO ?_ | with_reducible refine wp_alloc_own hO ?_ | with_reducible refine wp_drew_own hO ?_ | with_reducible refine bodyPost_alloc_own hO ?_ | with_reducible refine bodyPost_drew_own hO ?_ | ((first | with_reducible apply wpList_set_own | with_reducible apply wp_set_own | with_reducible apply bodyPost_set_own); (focus (first | (with_reducible apply Own.set; (focus (with_reducible apply hO)); (repeat (first | with_reducible exact Put.here _ _ _ | with_reducible apply Put.there)); done) | (with_reducible apply Own.setRow; (focus (with_reducible apply hO)); (focus (repeat (first | with_reducible exact Put.here _ _ _ | with_reducible apply Put.there))); first | assumption | (simp; omega) | (simp; assumption)) | ((repeat' (first | with_reducible apply hO | with_reducible apply Own.set)); all_goals (repeat (first | with_reducible exact Put.here _ _ _ | with_reducible apply Put.there)); done))))); clear hO; intro w9 hO; (try dsimp only [List.set] at hO); ((try clear hf); have hf := hO.facts; (try simp only [FX, Nat.zero_add, Nat.reduceAdd, and_true, true_and, List.map_cons, List.map_nil, List.cons_append, List.nil_append] at hf))))
                              replace hO := hO.take (rs := [Row2 44 1 ka9 (Wd.length + 1) kc9 (E.map dv ++ [.slice xcp xch.length xcc]), .imm (fun w => DLAt w wa E), .imm (LsArg sa ss (some ⟨b, off, none⟩) l)]) (by repeat (first | with_reducible exact Takes.nil _ | with_reducible apply Takes.cons | with_reducible exact Pick.here _ _ | with_reducible apply Pick.there))
                              simp only [List.cons_append, List.nil_append] at hO
                              replace hO := (hO.dlAdd hch).again
                              have hle : (E ++ [(xcp, xcc, xch)]).length = Wd.length + 1 := by rw [List.length_append, hEn]; rfl
                              exact ⟨⟨j + 1, q, u + xch.length + 1, kc9, kc9, ka9, ka9, E ++ [(xcp, xcc, xch)], E ++ [(xcp, xcc, xch)], d', Wd ++ [xch], rfl, by rw [hle], by rw [hle], by go_num, by go_num, by omega, HI2, hO.cut (by repeat (first | with_reducible apply Sub.cons | with_reducible exact Pick.here _ _ | with_reducible apply Pick.there | with_reducible apply Sub.base | with_reducible exact Keeps.here _ | with_reducible apply Keeps.skip))⟩, by simp [intOf]; omega⟩

                        · have HA := add_bad p q frm i first u xcp xch.length xcc xch rfl (by omega) (fun c hc => ⟨by have := (hxc c hc).1; omega, by have := (hxc c hc).2; omega⟩) (by omega) hui hz (φ := LsArg sa ss (some ⟨b, off, none⟩) l) fun w h => ⟨h.1, hch w h⟩
                          have HI2 := Lib.hid (show dss D = Wd ∧ dss E = Wd ∧ LogUp k d frm i first Wd u ∧ Wd.length ≤ i + (j + 1) ∧ ∀ x ∈ Wd, x.length ≤ 1000 from ⟨HI.out.1, HI.out.2.1, hU, by omega, hWx⟩)
                          clear HI hU hWx hch hxc
                          generalize addN xch ((i : Int) - u) = N at *
                          obtain ⟨N, rfl⟩ : ∃ N', N = N' + 1 := ⟨N - 1, by omega⟩
                          have hN : ((N + 1 : Nat) : Int) ≠ 0 := by omega
                          rw [show errV (N + 1) = .iface 97 (.int .i64 ((N + 1 : Nat) : Int)) from rfl] at HA HSE
                          generalize N + 1 = N' at *
                          go_wp2_with (first | (go_at_call 19; (with_reducible apply Calls.mono (HSD _ (Own.immOf (φ := fun w => DLAt w oa D) hO (by repeat (first | with_reducible exact Pick.here _ _ | with_reducible apply Pick.there))) (Own.immOf (φ := fun w => DLAt w wa E) hO (by repeat (first | with_reducible exact Pick.here _ _ | with_reducible apply Pick.there)))); rintro e8 w8 ⟨rfl, hx8⟩; replace hO := hO.ext hx8; clear hx8; dsimp only; ((try clear hf); have hf := hO.facts; (try simp only [FX, Nat.zero_add, Nat.reduceAdd, and_true, true_and, List.map_cons, List.map_nil, List.cons_append, List.nil_append] at hf)))) | (go_at_call 20; (with_reducible apply Reads.use hO (HRM); (focus (repeat (first | with_reducible exact Takes.nil _ | with_reducible apply Takes.cons | with_reducible exact Pick.here _ _ | with_reducible apply Pick.there))); clear hO; intro w9 hx9 hO; clear hx9; dsimp only; ((try clear hf); have hf := hO.facts; (try simp only [FX, Nat.zero_add, Nat.reduceAdd, and_true, true_and, List.map_cons, List.map_nil, List.cons_append, List.nil_append] at hf)))) | (go_at_call 21; (with_reducible apply Reads.use hO (HNX); (focus (repeat (first | with_reducible exact Takes.nil _ | with_reducible apply Takes.cons | with_reducible exact Pick.here _ _ | with_reducible apply Pick.there))); clear hO; intro w9 hx9 hO; clear hx9; dsimp only; ((try clear hf); have hf := hO.facts; (try simp only [FX, Nat.zero_add, Nat.reduceAdd, and_true, true_and, List.map_cons, List.map_nil, List.cons_append, List.nil_append] at hf)); (have hk9 := hcell _ (Own.immOf (φ := LsArg sa ss (some ⟨b, off, none⟩) l) hO (by repeat (first | with_reducible exact Pick.here _ _ | with_reducible apply Pick.there))); obtain ⟨k0, k1, k2, k3, k4, k5, k6, k7, k8⟩ := hk9))) | (go_at_call 22; (with_reducible apply Calls.mono (HF _ (Own.immOf (φ := LsArg sa ss (some ⟨b, off, none⟩) l) hO (by repeat (first | with_reducible exact Pick.here _ _ | with_reducible apply Pick.there)))); rintro e8 w8 ⟨rfl, hx8⟩; replace hO := hO.ext hx8; clear hx8; dsimp only; ((try clear hf); have hf := hO.facts; (try simp only [FX, Nat.zero_add, Nat.reduceAdd, and_true, true_and, List.map_cons, List.map_nil, List.cons_append, List.nil_append] at hf)))) | (go_at_call 23; (with_reducible apply Does.use hO (HA); (focus (repeat (first | with_reducible exact Takes.nil _ | with_reducible apply Takes.cons | with_reducible exact Pick.here _ _ | with_reducible apply Pick.there))); clear hO; intro x9 w9 hO; dsimp only at hO ⊢; simp only [List.cons_append, List.nil_append] at hO; ((try clear hf); have hf := hO.facts; (try simp only [FX, Nat.zero_add, Nat.reduceAdd, and_true, true_and, List.map_cons, List.map_nil, List.cons_append, List.nil_append] at hf)))) | (go_at_call 16; (with_reducible apply Calls.mono (HSE _); rintro e8 w8 ⟨rfl, rfl⟩; dsimp only)) | ((first | with_reducible refine wpList_alloc_own hO ?_ | with_reducible refine wpList_drew_own hO ?_ | with_reducible refine wp_alloc_own hO ?_ | with_reducible refine wp_drew_own hO ?_ | with_reducible refine bodyPost_alloc_own hO ?_ | with_reducible refine bodyPost_drew_own hO ?_ | ((first | with_reducible apply wpList_set_own | with_reducible apply wp_set_own | with_reducible apply bodyPost_set_own); (focus (first | (with_reducible apply Own.set; (focus (with_reducible apply hO)); (repeat (first | with_reducible exact Put.here _ _ _ | with_reducible apply Put.there)); done) | (with_reducible apply Own.setRow; (focus (with_reducible apply hO)); (focus (repeat (first | with_reducible exact Put.here _ _ _ | with_reducible apply Put.there))); first | assumption | (simp; omega) | (simp; assumption)) | ((repeat' (first | with_reducible apply hO | with_reducible apply Own.set)); all_goals (repeat (first | with_reducible exact Put.here _ _ _ | with_reducible apply Put.there)); done))))); clear hO; intro w9 hO; (try dsimp only [List.set] at hO); ((try clear hf); have hf := hO.facts; (try simp only [FX, Nat.zero_add, Nat.reduceAdd, and_true, true_and, List.map_cons, List.map_nil, List.cons_append, List.nil_append] at hf))))
                          all_goals try (exfalso; omega; done)
                          exact ⟨⟨j + 1, q, u, oc, wc, oa, wa, D, E, d, Wd, rfl, by rw [hDn], by rw [hEn], rfl, by go_num, by omega, HI2, hO.cut (by repeat (first | with_reducible apply Sub.cons | with_reducible exact Pick.here _ _ | with_reducible apply Pick.there | with_reducible apply Sub.base | with_reducible exact Keeps.here _ | with_reducible apply Keeps.skip))⟩, by simp [intOf]; omega⟩
                    · obtain rfl : j = m := by omega
                      go_wp2_with (first | (go_at_call 19; (with_reducible apply Calls.mono (HSD _ (Own.immOf (φ := fun w => DLAt w oa D) hO (by repeat (first | with_reducible exact Pick.here _ _ | with_reducible apply Pick.there))) (Own.immOf (φ := fun w => DLAt w wa E) hO (by repeat (first | with_reducible exact Pick.here _ _ | with_reducible apply Pick.there)))); rintro e8 w8 ⟨rfl, hx8⟩; replace hO := hO.ext hx8; clear hx8; dsimp only; ((try clear hf); have hf := hO.facts; (try simp only [FX, Nat.zero_add, Nat.reduceAdd, and_true, true_and, List.map_cons, List.map_nil, List.cons_append, List.nil_append] at hf)))) | (go_at_call 20; (with_reducible apply Reads.use hO (HRM); (focus (repeat (first | with_reducible exact Takes.nil _ | with_reducible apply Takes.cons | with_reducible exact Pick.here _ _ | with_reducible apply Pick.there))); clear hO; intro w9 hx9 hO; clear hx9; dsimp only; ((try clear hf); have hf := hO.facts; (try simp only [FX, Nat.zero_add, Nat.reduceAdd, and_true, true_and, List.map_cons, List.map_nil, List.cons_append, List.nil_append] at hf)))) | (go_at_call 21; (with_reducible apply Reads.use hO (HNX); (focus (repeat (first | with_reducible exact Takes.nil _ | with_reducible apply Takes.cons | with_reducible exact Pick.here _ _ | with_reducible apply Pick.there))); clear hO; intro w9 hx9 hO; clear hx9; dsimp only; ((try clear hf); have hf := hO.facts; (try simp only [FX, Nat.zero_add, Nat.reduceAdd, and_true, true_and, List.map_cons, List.map_nil, List.cons_append, List.nil_append] at hf)))) | ((first | with_reducible refine wpList_alloc_own hO ?_ | with_reducible refine wpList_drew_own hO ?_ | with_reducible refine wp_alloc_own hO ?_ | with_reducible refine wp_drew_own hO ?_ | with_reducible refine bodyPost_alloc_own hO ?_ | with_reducible refine bodyPost_drew_own hO ?_ | ((first | with_reducible apply wpList_set_own | with_reducible apply wp_set_own | with_reducible apply bodyPost_set_own); (focus (first | (with_reducible apply Own.set; (focus (with_reducible apply hO)); (repeat (first | with_reducible exact Put.here _ _ _ | with_reducible apply Put.there)); done) | (with_reducible apply Own.setRow; (focus (with_reducible apply hO)); (focus (repeat (first | with_reducible exact Put.here _ _ _ | with_reducible apply Put.there))); first | assumption | (simp; omega) | (simp; assumption)) | ((repeat' (first | with_reducible apply hO | with_reducible apply Own.set)); all_goals (repeat (first | with_reducible exact Put.here _ _ _ | with_reducible apply Put.there)); done))))); clear hO; intro w9 hO; (try dsimp only [List.set] at hO); ((try clear hf); have hf := hO.facts; (try simp only [FX, Nat.zero_add, Nat.reduceAdd, and_true, true_and, List.map_cons, List.map_nil, List.cons_append, List.nil_append] at hf))))
                      all_goals try (exfalso; omega; done)
                      go_ret
                      exact ⟨rfl, hO.toExt⟩
  · have hex : ¬ n ≤ 40 ∨ lightActs l 20 = false ∨ ¬ first ≤ 1000000 := by
      by_cases h1 : n ≤ 40
      · by_cases h3 : first ≤ 1000000
        · cases h2 : lightActs l 20 with
          | true => exact absurd ⟨h1, h2, h3⟩ hlight
          | false => exact .inr (.inl rfl)
        · exact .inr (.inr h3)
      · exact .inl h1
    generalize lightActs l 20 = lb at *
    clear hlight
    go_enter Tryd.func3, Tryd.ntmps3
    cases lb with
    | true =>
      go_wp2_with (first | (go_at_call 10; (with_reducible apply Calls.mono (HG _ (Own.immOf (φ := LsArg sa ss aa l) hO (by repeat (first | with_reducible exact Pick.here _ _ | with_reducible apply Pick.there)))); rintro e8 w8 ⟨rfl, hx8⟩; replace hO := hO.ext hx8; clear hx8; dsimp only; ((try clear hf); have hf := hO.facts; (try simp only [FX, Nat.zero_add, Nat.reduceAdd, and_true, true_and, List.map_cons, List.map_nil, List.cons_append, List.nil_append] at hf)))) | (go_at_call 11; (with_reducible apply Calls.mono (HL _ (Own.immOf (φ := LsArg sa ss aa l) hO (by repeat (first | with_reducible exact Pick.here _ _ | with_reducible apply Pick.there)))); rintro e8 w8 ⟨rfl, rfl⟩; dsimp only)) | ((first | with_reducible refine wpList_alloc_own hO ?_ | with_reducible refine wpList_drew_own hO ?_ | with_reducible refine wp_alloc_own hO ?_ | with_reducible refine wp_drew_own hO ?_ | with_reducible refine bodyPost_alloc_own hO ?_ | with_reducible refine bodyPost_drew_own hO ?_ | ((first | with_reducible apply wpList_set_own | with_reducible apply wp_set_own | with_reducible apply bodyPost_set_own); (focus (first | (with_reducible apply Own.set; (focus (with_reducible apply hO)); (repeat (first | with_reducible exact Put.here _ _ _ | with_reducible apply Put.there)); done) | (with_reducible apply Own.setRow; (focus (with_reducible apply hO)); (focus (repeat (first | with_reducible exact Put.here _ _ _ | with_reducible apply Put.there))); first | assumption | (simp; omega) | (simp; assumption)) | ((repeat' (first | with_reducible apply hO | with_reducible apply Own.set)); all_goals (repeat (first | with_reducible exact Put.here _ _ _ | with_reducible apply Put.there)); done))))); clear hO; intro w9 hO; (try dsimp only [List.set] at hO); ((try clear hf); have hf := hO.facts; (try simp only [FX, Nat.zero_add, Nat.reduceAdd, and_true, true_and, List.map_cons, List.map_nil, List.cons_append, List.nil_append] at hf))))
      all_goals first | (exfalso; simp at hex; omega; done) | (go_ret; exact ⟨rfl, hO.toExt⟩)
    | false =>
      go_wp2_with (first | (go_at_call 10; (with_reducible apply Calls.mono (HG _ (Own.immOf (φ := LsArg sa ss aa l) hO (by repeat (first | with_reducible exact Pick.here _ _ | with_reducible apply Pick.there)))); rintro e8 w8 ⟨rfl, hx8⟩; replace hO := hO.ext hx8; clear hx8; dsimp only; ((try clear hf); have hf := hO.facts; (try simp only [FX, Nat.zero_add, Nat.reduceAdd, and_true, true_and, List.map_cons, List.map_nil, List.cons_append, List.nil_append] at hf)))) | (go_at_call 11; (with_reducible apply Calls.mono (HL _ (Own.immOf (φ := LsArg sa ss aa l) hO (by repeat (first | with_reducible exact Pick.here _ _ | with_reducible apply Pick.there)))); rintro e8 w8 ⟨rfl, rfl⟩; dsimp only)) | ((first | with_reducible refine wpList_alloc_own hO ?_ | with_reducible refine wpList_drew_own hO ?_ | with_reducible refine wp_alloc_own hO ?_ | with_reducible refine wp_drew_own hO ?_ | with_reducible refine bodyPost_alloc_own hO ?_ | with_reducible refine bodyPost_drew_own hO ?_ | ((first | with_reducible apply wpList_set_own | with_reducible apply wp_set_own | with_reducible apply bodyPost_set_own); (focus (first | (with_reducible apply Own.set; (focus (with_reducible apply hO)); (repeat (first | with_reducible exact Put.here _ _ _ | with_reducible apply Put.there)); done) | (with_reducible apply Own.setRow; (focus (with_reducible apply hO)); (focus (repeat (first | with_reducible exact Put.here _ _ _ | with_reducible apply Put.there))); first | assumption | (simp; omega) | (simp; assumption)) | ((repeat' (first | with_reducible apply hO | with_reducible apply Own.set)); all_goals (repeat (first | with_reducible exact Put.here _ _ _ | with_reducible apply Put.there)); done))))); clear hO; intro w9 hO; (try dsimp only [List.set] at hO); ((try clear hf); have hf := hO.facts; (try simp only [FX, Nat.zero_add, Nat.reduceAdd, and_true, true_and, List.map_cons, List.map_nil, List.cons_append, List.nil_append] at hf))))
      all_goals first | (exfalso; omega; done) | (go_ret; exact ⟨rfl, hO.toExt⟩)
end Go.Proofs.YtpdnlgopbnkdhaaDoor
