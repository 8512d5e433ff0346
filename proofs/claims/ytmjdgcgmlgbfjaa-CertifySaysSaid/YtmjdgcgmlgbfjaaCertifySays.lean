/- The law of package certify: what the code does, against what its model does. -/
import Derived.Test.YtmjdgcgmlgbfjaaCertify2
import Derived.Test.YtmjdgcgmlgbfjaaActs
set_option linter.unusedVariables false
set_option linter.unusedSimpArgs false
namespace Go.Proofs.Ytmjdgcgmlgbfjaa
open Go.RowKit

theorem Hist.new (w : World) : (Hist w.heap.size []).holds (w.alloc (.cells #[.slice none 0 0] 39)) (fun b => b = w.heap.size) := by
  refine ⟨.slice none 0 0, [], fun _ => False, heap_alloc_new w _, World.ownsRow_nil _ 0 _ _, ?_⟩
  simp [Value.ownBlock]
theorem Owns.hist (w : World) : Owns w.heap.size (w.alloc (.cells #[.slice none 0 0] 39)) [Hist w.heap.size []] :=
  Owns.new (Owns.nil _ w) ((Ext.refl w).alloc _) (Hist.new w) (fun b hb => Nat.le_of_eq hb.symm) (Nat.le_refl _)
theorem one_change {w : World} {b : Nat} {c : Ch} (h0 : w.cell? ⟨b, 0, none⟩ = some (.string c.key)) (h1 : w.cell? ⟨b, 1, none⟩ = some (.string c.val)) (h2 : w.cell? ⟨b, 2, none⟩ = some (.bool c.gone)) : ChangesAt w (some ⟨b, 0, none⟩) [c] :=
  .inr ⟨b, 0, rfl, fun i hi => by
    have : i = 0 := by simpa using hi
    subst this
    exact ⟨h0, h1, h2⟩⟩
theorem one_span {w : World} {b : Nat} {c : Sp} (h0 : w.cell? ⟨b, 0, none⟩ = some (.string c.lo)) (h1 : w.cell? ⟨b, 1, none⟩ = some (.string c.hi)) : SpansAt w (some ⟨b, 0, none⟩) [c] :=
  .inr ⟨b, 0, rfl, fun i hi => by
    have : i = 0 := by simpa using hi
    subst this
    exact ⟨h0, h1⟩⟩
def tA : ByteArray := ⟨#[116, 47, 97]⟩
def tB : ByteArray := ⟨#[116, 47, 98]⟩
set_option maxHeartbeats 1000000 in
set_option maxRecDepth 100000 in
theorem clears_any (w : World) : Calls Try.prog 21 #[] w fun e w' => e = .returned (.bool true) ∧ Ext w w' := by
  have hO := Owns.hist w
  have hE : Ext w (w.alloc (.cells #[.slice none 0 0] 39)) := (by repeat (first | exact Ext.refl _ | assumption | refine Ext.of_drew ?_ | refine Ext.alloc ?_ _ | refine Ext.drew ?_ | refine Ext.trans ?_ (by assumption)))
  have c0 : clearOf [(1, keysOf [⟨tA, ⟨#[]⟩, false⟩])] [⟨tA, tB⟩] 0 = false := by kernel_rfl
  have c1 : clearOf [(1, keysOf [⟨tA, ⟨#[]⟩, false⟩])] [⟨tA, tB⟩] 1 = true := by kernel_rfl
  go_enter Try.func21, Try.ntmps21
  go_wp2_with (first
    | (go_at_call 23; refine Owns.calls hO hE (by repeat (first | exact Ext.refl _ | assumption | refine Ext.of_drew ?_ | refine Ext.alloc ?_ _ | refine Ext.drew ?_ | refine Ext.trans ?_ (by assumption))) 0 rfl (fun F hF => note_any _ [] F 1 _ _ [⟨tA, ⟨#[]⟩, false⟩] _ hF (by simp) (by simp) (one_change (by simp [tA]) (by simp) (by simp))) ?_; intro w2 hO' hE'; replace hO := hO'; replace hE := hE'; clear hO' hE'; dsimp only [List.set] at hO; dsimp only)
    | (go_at_call 25; refine Owns.looks hO hE (by repeat (first | exact Ext.refl _ | assumption | refine Ext.of_drew ?_ | refine Ext.alloc ?_ _ | refine Ext.drew ?_ | refine Ext.trans ?_ (by assumption))) 0 rfl (fun F hF => clear_any _ _ F _ _ [⟨tA, tB⟩] _ _ hF (by simp) (by simp [keysOf]) (by simp [maxLen]) (one_span (by simp [tA]) (by simp [tB]))) ?_; intro w2 hO' hE' _; replace hO := hO'; replace hE := hE'; clear hO' hE'; dsimp only; simp only [List.nil_append, c0, c1])
    | (go_at_call 26; refine Owns.looks hO hE (by repeat (first | exact Ext.refl _ | assumption | refine Ext.of_drew ?_ | refine Ext.alloc ?_ _ | refine Ext.drew ?_ | refine Ext.trans ?_ (by assumption))) 0 rfl (fun F hF => count_any _ _ F _ hF) ?_; intro w2 hO' hE' _; replace hO := hO'; replace hE := hE'; clear hO' hE'; dsimp only))
  go_ret
  exact ⟨rfl, hE.trans (by repeat (first | exact Ext.refl _ | assumption | refine Ext.of_drew ?_ | refine Ext.alloc ?_ _ | refine Ext.drew ?_ | refine Ext.trans ?_ (by assumption)))⟩

/-- What was changed, deed by deed. -/
def pairs (st : List (Int × List ByteArray)) : List (Int × ByteArray) := st.flatMap fun d => d.2.map fun k => (d.1, k)
theorem pairs_snoc (st : List (Int × List ByteArray)) (n : Int) (l : List ByteArray) : pairs (st ++ [(n, l)]) = pairs st ++ l.map fun k => (n, k) := by simp [pairs]
theorem pairs_filter (st : List (Int × List ByteArray)) (n : Int) : (pairs st).filter (fun q => decide (q.1 > n)) = pairs (st.filter fun d => decide (d.1 > n)) := by
  induction st with
  | nil => rfl
  | cons d st ih =>
    simp only [pairs, List.flatMap_cons, List.filter_append] at ih ⊢
    rw [ih, List.filter_cons]
    by_cases h : d.1 > n
    · simp [h, List.filter_map, Function.comp_def]
      rw [List.filter_eq_self.2 (by simp)]
    · simp [h, List.filter_map, Function.comp_def]
def spanClear (l : List Sp) (n : Int) (q : Int × ByteArray) (s : Sp) : Bool := !(s.has q.2 && decide (q.1 > n))
theorem clear_pairs (st : List (Int × List ByteArray)) (l : List Sp) (n : Int) : clearOf st l n = (pairs st).all fun q => l.all (spanClear l n q) := by
  unfold clearOf pairs spanClear
  rw [Bool.eq_iff_iff]
  simp only [List.all_eq_true, List.mem_flatMap, List.mem_map, Bool.not_eq_true', Bool.and_eq_false_iff, List.any_eq_false, decide_eq_false_iff_not]
  constructor
  · rintro h q ⟨d, hd, k, hk, rfl⟩ s hs
    rcases h d hd k hk with h | h
    · exact .inr h
    · exact .inl (by simpa using h s hs)
  · intro h d hd k hk
    by_cases hn : d.1 > n
    · refine .inr fun s hs => ?_
      rcases h (d.1, k) ⟨d, hd, k, hk, rfl⟩ s hs with h | h
      · simpa using h
      · exact absurd hn h
    · exact .inl hn
theorem Try.infoInt : (Try.prog.info? 3).map (fun i => (i.zero, i.size, i.bytes)) = some (some (.int .i64 0), 1, 8) := by kernel_rfl
def intV (q : Int × ByteArray) : Value := .int .i64 q.1
def keyV (q : Int × ByteArray) : Value := .string q.2
def deedV (d : Int × List ByteArray) : Value := .int .i64 d.1

/-- How it stands at the start of a round. -/
structure CRel (W : World) (p : Nat) (j : Nat) (st : List (Int × List ByteArray)) (m : Int) (xa : Option Addr) (ya : Nat) (xk : Option Addr) (yk : Nat) (xd : Option Addr) (yd : Nat) (w : World) : Prop where
  ext : Ext W w
  m0 : 0 ≤ m
  m1 : m ≤ 8 * j
  sts : st.length ≤ j
  prs : (pairs st).length ≤ 20 * j
  each : ∀ d ∈ st, d.2.length ≤ 20
  owns : Owns W.heap.size w [Hist p st, Row 3 1 (.slice xa (pairs st).length ya) (pairs st).length ((pairs st).map intV), Row 9 1 (.slice xk (pairs st).length yk) (pairs st).length ((pairs st).map keyV), Row 3 1 (.slice xd st.length yd) st.length (st.map deedV)]

def newer (n : Int) (l : List (Int × ByteArray)) (q : Nat) : List (Int × ByteArray) := (l.take q).filter fun x => decide (x.1 > n)
theorem newer_snoc (n : Int) (l : List (Int × ByteArray)) (q : Nat) (h : q < l.length) : newer n l (q + 1) = newer n l q ++ (if l[q].1 > n then [l[q]] else []) := by
  unfold newer
  rw [take_snoc' l q h, List.filter_append]
  by_cases hn : l[q].1 > n <;> simp [hn]
theorem newer_len (n : Int) (l : List (Int × ByteArray)) (q : Nat) : (newer n l q).length ≤ q := by
  unfold newer
  exact Nat.le_trans (List.length_filter_le _ _) (by simp; omega)
theorem newer_all (n : Int) (l : List (Int × ByteArray)) : newer n l l.length = l.filter fun x => decide (x.1 > n) := by unfold newer; rw [List.take_length]
def newerD (n : Int) (l : List (Int × List ByteArray)) (q : Nat) : List (Int × List ByteArray) := (l.take q).filter fun x => decide (x.1 > n)
theorem newerD_snoc (n : Int) (l : List (Int × List ByteArray)) (q : Nat) (h : q < l.length) : newerD n l (q + 1) = newerD n l q ++ (if l[q].1 > n then [l[q]] else []) := by
  unfold newerD
  rw [take_snoc' l q h, List.filter_append]
  by_cases hn : l[q].1 > n <;> simp [hn]
theorem newerD_len (n : Int) (l : List (Int × List ByteArray)) (q : Nat) : (newerD n l q).length ≤ q := by
  unfold newerD
  exact Nat.le_trans (List.length_filter_le _ _) (by simp; omega)
theorem newerD_all (n : Int) (l : List (Int × List ByteArray)) : newerD n l l.length = l.filter fun x => decide (x.1 > n) := by unfold newerD; rw [List.take_length]
def young (n : Int) (st : List (Int × List ByteArray)) : List (Int × List ByteArray) := st.filter fun d => decide (d.1 > n)
theorem young_len (n : Int) (st : List (Int × List ByteArray)) : (young n st).length ≤ st.length := List.length_filter_le _ _
theorem pairs_young (st : List (Int × List ByteArray)) (n : Int) : newer n (pairs st) (pairs st).length = pairs (young n st) := by rw [newer_all, pairs_filter]; rfl
theorem newerD_young (n : Int) (st : List (Int × List ByteArray)) : newerD n st st.length = young n st := newerD_all n st
theorem forget_young (p : Nat) (st : List (Int × List ByteArray)) (F : Nat → Prop) (n : Int) (w : World) (hh : (Hist p st).holds w F) (hst : st.length ≤ 100000) :
    Calls Try.prog 24 #[.pointer (some ⟨p, 0, none⟩), .int .i64 n] w fun e w' => e = .returned (.tuple #[]) ∧ ∃ F', (Hist p (young n st)).holds w' F' ∧ Chg F w w' ∧ ∀ b, F' b → F b ∨ w.heap.size ≤ b := forget_any p st F n w hh hst
def noteB : ByteArray := ⟨#[110, 111, 116, 101]⟩
def forgetB : ByteArray := ⟨#[102, 111, 114, 103, 101, 116]⟩
theorem and7 (a : Int) : 0 ≤ bits .and .i64 a 7 ∧ bits .and .i64 a 7 ≤ 7 := by
  have h : (BitVec.ofInt 64 a &&& BitVec.ofInt 64 7).toNat ≤ 7 := by
    rw [BitVec.toNat_and]; exact Nat.le_trans Nat.and_le_right (by decide)
  show 0 ≤ IntKind.i64.wrap ((BitVec.ofInt 64 a &&& BitVec.ofInt 64 7).toNat : Int) ∧ IntKind.i64.wrap ((BitVec.ofInt 64 a &&& BitVec.ofInt 64 7).toNat : Int) ≤ 7
  generalize (BitVec.ofInt 64 a &&& BitVec.ofInt 64 7).toNat = n at *
  rw [IntKind.wrap_i64]; omega
def nq (st : List (Int × List ByteArray)) (n : Int) (ch : List Ch) (q : Nat) : List (Int × ByteArray) := pairs st ++ (ch.take q).map fun c => (n, c.key)
theorem nq_zero (st : List (Int × List ByteArray)) (n : Int) (ch : List Ch) : nq st n ch 0 = pairs st := by simp [nq]
theorem nq_snoc (st : List (Int × List ByteArray)) (n : Int) (ch : List Ch) (q : Nat) (h : q < ch.length) : nq st n ch (q + 1) = nq st n ch q ++ [(n, ch[q].key)] := by
  unfold nq; rw [take_snoc' _ _ h, List.map_append, List.append_assoc]; rfl
theorem nq_len (st : List (Int × List ByteArray)) (n : Int) (ch : List Ch) (q : Nat) : (nq st n ch q).length ≤ (pairs st).length + q := by
  unfold nq; simp; omega
theorem nq_all (st : List (Int × List ByteArray)) (n : Int) (ch : List Ch) : nq st n ch ch.length = pairs (st ++ [(n, keysOf ch)]) := by
  unfold nq; rw [pairs_snoc, List.take_length]; simp [keysOf]
/-- What the law reckons, span by span. -/
def rdOne (l : List Sp) (n : Int) (q : Int × ByteArray) (c : Bool) (j : Nat) : Bool := c && (l.take j).all (spanClear l n q)
theorem rdOne_zero (l : List Sp) (n : Int) (q : Int × ByteArray) (c : Bool) : rdOne l n q c 0 = c := by simp [rdOne]
theorem rdOne_snoc (l : List Sp) (n : Int) (q : Int × ByteArray) (c : Bool) (j : Nat) (h : j < l.length) : rdOne l n q c (j + 1) = (rdOne l n q c j && !(l[j].has q.2 && decide (q.1 > n))) := by
  unfold rdOne
  rw [take_snoc' l j h, List.all_append, Bool.and_assoc]
  simp [spanClear]
def rdAll (l : List Sp) (n : Int) (ps : List (Int × ByteArray)) (k : Nat) : Bool := (ps.take k).all fun q => l.all (spanClear l n q)
theorem rdAll_zero (l : List Sp) (n : Int) (ps : List (Int × ByteArray)) : rdAll l n ps 0 = true := by simp [rdAll]
theorem rdAll_snoc (l : List Sp) (n : Int) (ps : List (Int × ByteArray)) (k : Nat) (h : k < ps.length) : rdAll l n ps (k + 1) = rdOne l n ps[k] (rdAll l n ps k) l.length := by
  unfold rdAll rdOne
  rw [take_snoc' ps k h, List.all_append, List.take_length]
  simp
theorem rdAll_clear (l : List Sp) (n : Int) (st : List (Int × List ByteArray)) : rdAll l n (pairs st) (pairs st).length = clearOf st l n := by
  unfold rdAll
  rw [List.take_length, clear_pairs]
set_option maxHeartbeats 4000000 in
set_option maxRecDepth 100000 in
theorem certifySays_any (a : Option Addr) (cap : Nat) (l : List Ac) (W : World) (hl : l.length ≤ maxLen) (hs : ActsAt W a l) :
    Calls Try.prog 4 #[.slice a l.length cap] W fun e w' => e = .returned (.bool true) ∧ Ext W w' := by
  obtain ⟨iS, hiS, hzS, hsS, hbS⟩ := info_parts Try.infoStr0
  obtain ⟨iI, hiI, hzI, hsI, hbI⟩ := info_parts Try.infoInt
  go_enter Try.func4, Try.ntmps4
  cases hlight : lightActs l 40 with
  | false =>
    go_wp2_with (first
      | (go_at_call 21; refine (clears_any _).mono ?_; rintro e w1 ⟨rfl, hx1⟩; dsimp only)
      | (go_at_call 22; refine (lightActs_any _ _ _ 40 _ hl (by omega) (hs.ext (by repeat (first | exact Ext.refl _ | assumption | refine Ext.of_drew ?_ | refine Ext.alloc ?_ _ | refine Ext.drew ?_ | refine Ext.trans ?_ (by assumption))))).mono ?_; rintro e w' ⟨rfl, rfl⟩; dsimp only; rw [hlight]))
    go_ret
    exact ⟨rfl, (by repeat (first | exact Ext.refl _ | assumption | refine Ext.of_drew ?_ | refine Ext.alloc ?_ _ | refine Ext.drew ?_ | refine Ext.trans ?_ (by assumption)))⟩
  | true =>
    have hll : l.length ≤ 40 ∧ ∀ x ∈ l, x.ch.length ≤ 20 := by
      simp only [lightActs, lightAct, lightChanges, Bool.and_eq_true, decide_eq_true_eq, List.all_eq_true] at hlight
      exact ⟨hlight.1, fun x hx => ((hlight.2 x hx).1.2).1⟩
    obtain ⟨hl40, hch⟩ := hll
    have HCH := Lib.hid hch
    clear hch
    go_wp2_with (first
      | (go_at_call 21; refine (clears_any _).mono ?_; rintro e w1 ⟨rfl, hx1⟩; dsimp only)
      | (go_at_call 22; refine (lightActs_any _ _ _ 40 _ hl (by omega) (hs.ext (by repeat (first | exact Ext.refl _ | assumption | refine Ext.of_drew ?_ | refine Ext.alloc ?_ _ | refine Ext.drew ?_ | refine Ext.trans ?_ (by assumption))))).mono ?_; rintro e w' ⟨rfl, rfl⟩; dsimp only; rw [hlight]))
    rename World => w1
    go_loopw [5, 6, 7, 8, 9] (fun va vk vd vn i wr => ∃ (j : Nat) (st : List (Int × List ByteArray)) (m : Int) (xa : Option Addr) (ya : Nat) (xk : Option Addr) (yk : Nat) (xd : Option Addr) (yd : Nat), j ≤ l.length ∧ va = .slice xa (pairs st).length ya ∧ vk = .slice xk (pairs st).length yk ∧ vd = .slice xd st.length yd ∧ vn = .int .i64 m ∧ i = .int .i64 j ∧ CRel W w1.heap.size j st m xa ya xk yk xd yd wr) (fun _ _ _ _ i _ => l.length - (intOf i).toNat)
    case atStart =>
      refine ⟨0, [], 0, none, 0, none, 0, none, 0, by omega, rfl, rfl, rfl, rfl, rfl, ⟨(by repeat (first | exact Ext.refl _ | assumption | refine Ext.of_drew ?_ | refine Ext.alloc ?_ _ | refine Ext.drew ?_ | refine Ext.trans ?_ (by assumption))), by omega, by omega, by simp, by simp [pairs], by simp, ?_⟩⟩
      refine Owns.new (w := w1) (Owns.new (Owns.new (Owns.new (Owns.nil _ w1) (Ext.refl w1) (Row.nil _ _) (fun _ h => h.elim) hx1.size) (Ext.refl w1) (Row.nil _ _) (fun _ h => h.elim) hx1.size) (Ext.refl w1) (Row.nil _ _) (fun _ h => h.elim) hx1.size) ((Ext.refl w1).alloc _) (Hist.new w1) (fun b hb => Nat.le_of_eq hb.symm) hx1.size
    case round =>
      obtain ⟨j, st, m, xa, ya, xk, yk, xd, yd, hj, rfl, rfl, rfl, rfl, rfl, hR⟩ := hrel
      by_cases hlt : j < l.length
      · obtain ⟨hs1, hs2⟩ := hs.ext hR.ext
        rcases hs1 with rfl | ⟨b, off, rfl, hc⟩
        · simp at hlt
        have hA := hc j hlt
        clear hc
        obtain ⟨k0, k1, k2, k3, k4, k5, k6, k7, k8⟩ := hA
        obtain ⟨⟨hwa, _⟩, hcc, hsc, hcl, hsl⟩ := hs2 _ (List.getElem_mem hlt)
        have hc20 := HCH.out _ (List.getElem_mem hlt)
        have hcW := (hs.2 _ (List.getElem_mem hlt)).2.1
        have hsW := (hs.2 _ (List.getElem_mem hlt)).2.2.1
        clear hs hs2
        generalize l[j] = x at *
        obtain ⟨xkind, xA, xB, xC, xK, xS, xT, xcp, xcc, xch, xsp, xsc, xspn⟩ := x
        dsimp only at *
        cases hk1 : xkind.toList == [110, 111, 116, 101] with
        | true =>
          obtain ⟨hE, hm0, hm1, hsts, hprs, heach, hO0⟩ := hR
          have hv := and7 xA
          obtain ⟨hv0, hv7⟩ := hv
          have hO := Owns.new hO0 ((Ext.refl wr).alloc (.cells #[.string xkind, .int .i64 xA, .int .i64 xB, .int .i64 xC, .int .u64 xK, .string xS, .string xT, .slice xcp xch.length xcc, .slice xsp xspn.length xsc] 45))
            (Box.new wr [.string xkind, .int .i64 xA, .int .i64 xB, .int .i64 xC, .int .u64 xK, .string xS, .string xT, .slice xcp xch.length xcc, .slice xsp xspn.length xsc] 45) (fun b hb => Nat.le_of_eq hb.symm) hE.size
          clear hO0
          replace hE := hE.trans ((Ext.refl wr).alloc (.cells #[.string xkind, .int .i64 xA, .int .i64 xB, .int .i64 xC, .int .u64 xK, .string xS, .string xT, .slice xcp xch.length xcc, .slice xsp xspn.length xsc] 45))
          have b1 := hO.box hE.size 0 rfl (k := 1) rfl
          have b7 := hO.box hE.size 0 rfl (k := 7) rfl
          have b8 := hO.box hE.size 0 rfl (k := 8) rfl
          go_wp2_with (first
            | (go_at_call 23; refine Owns.calls hO hE (Ext.refl _) 1 rfl (fun F hF => note_any _ st F _ _ _ xch _ hF (by omega) (by omega) (hcc.ext (by repeat (first | exact Ext.refl _ | assumption | refine Ext.of_drew ?_ | refine Ext.alloc ?_ _ | refine Ext.drew ?_ | refine Ext.trans ?_ (by assumption))))) ?_; intro w2 hO' hE'; replace hO := hO'; replace hE := hE'; clear hO' hE'; dsimp only [List.set] at hO; dsimp only; clear b1 b7 b8; have b1 := hO.box hE.size 0 rfl (k := 1) rfl; have b7 := hO.box hE.size 0 rfl (k := 7) rfl; have b8 := hO.box hE.size 0 rfl (k := 8) rfl; clear k0 k1 k2 k3 k4 k5 k6 k7 k8)
            | (at_builtin; refine wpList_append_at hO hE (by repeat (first | exact Ext.refl _ | assumption | refine Ext.of_drew ?_ | refine Ext.alloc ?_ _ | refine Ext.drew ?_ | refine Ext.trans ?_ (by assumption))) 4 rfl rfl (.tmp 102) (.tmp 104) 40 rfl iI _ 8 Try.underlying40 hiI hzI hsI hbI rfl (by omega) rfl _ 1 1 [.int .i64 (m + 1 + bits .and .i64 xA 7)] rfl rfl (one_cell (by simp)) (one_new rfl) (by unfold maxLen; omega) (by omega) ?_; intro k102a k102c w3 hO' hE'; replace hO := hO'; replace hE := hE'; clear hO' hE'; dsimp only [List.set] at hO; clear b1 b7 b8; have b1 := hO.box hE.size 0 rfl (k := 1) rfl; have b7 := hO.box hE.size 0 rfl (k := 7) rfl; have b8 := hO.box hE.size 0 rfl (k := 8) rfl))
          have hnn0 : 0 ≤ m + 1 + bits .and .i64 xA 7 := by omega
          have hnn1 : m + 1 + bits .and .i64 xA 7 ≤ 8 * (j + 1) := by omega
          generalize m + 1 + bits .and .i64 xA 7 = nn at *
          have hst2 : (st ++ [(nn, keysOf xch)]).length = st.length + 1 := by simp
          rename World => w5
          go_loopw [5, 6, 11] (fun va vk i wr2 => ∃ (q : Nat) (xa : Option Addr) (ya : Nat) (xk : Option Addr) (yk : Nat), q ≤ xch.length ∧ va = .slice xa (nq st nn xch q).length ya ∧ vk = .slice xk (nq st nn xch q).length yk ∧ i = .int .i64 q ∧ Ext W wr2 ∧
            Owns W.heap.size wr2 [Box wr.heap.size [.string xkind, .int .i64 xA, .int .i64 xB, .int .i64 xC, .int .u64 xK, .string xS, .string xT, .slice xcp xch.length xcc, .slice xsp xspn.length xsc] 45,
              Hist w1.heap.size (st ++ [(nn, keysOf xch)]),
              Row 3 1 (.slice xa (nq st nn xch q).length ya) (nq st nn xch q).length ((nq st nn xch q).map intV),
              Row 9 1 (.slice xk (nq st nn xch q).length yk) (nq st nn xch q).length ((nq st nn xch q).map keyV),
              Row 3 1 (.slice k102a (st.length + 1) k102c) (st.length + 1) (List.map deedV st ++ [Value.int .i64 nn])]) (fun _ _ i _ => xch.length - (intOf i).toNat)
          case atStart => exact ⟨0, xa, ya, xk, yk, by omega, by rw [nq_zero], by rw [nq_zero], rfl, hE, by rw [nq_zero]; exact hO⟩
          case round =>
            clear hO hE b1 b7 b8
            obtain ⟨q, xa, ya, xk, yk, hq, rfl, rfl, rfl, hE, hO⟩ := hrel
            rename World => w6
            have b1 := hO.box hE.size 0 rfl (k := 1) rfl
            have b7 := hO.box hE.size 0 rfl (k := 7) rfl
            have b8 := hO.box hE.size 0 rfl (k := 8) rfl
            have hql := nq_len st nn xch q
            by_cases hqc : q < xch.length
            · have hsn := Lib.hid (nq_snoc st nn xch q hqc)
              rcases hcW with rfl | ⟨bc, oc, rfl, hcc'⟩
              · simp at hqc
              have c0 := fun w (hx : Ext W w) => hx.some (hcc' q hqc).1
              clear hcc'
              have c1 := c0 _ hE
              go_wp2_with (first
                | (at_builtin; refine wpList_append_at hO hE (by repeat (first | exact Ext.refl _ | assumption | refine Ext.of_drew ?_ | refine Ext.alloc ?_ _ | refine Ext.drew ?_ | refine Ext.trans ?_ (by assumption))) 2 rfl rfl (.tmp 113) (.tmp 115) 40 rfl iI _ 8 Try.underlying40 hiI hzI hsI hbI rfl (by omega) rfl _ 1 1 [.int .i64 nn] rfl rfl (one_cell (by simp)) (one_new rfl) (by unfold maxLen; omega) (by omega) ?_; intro k113a k113c w3 hO' hE'; replace hO := hO'; replace hE := hE'; clear hO' hE'; dsimp only [List.set] at hO; clear b1 b7 b8; have b1 := hO.box hE.size 0 rfl (k := 1) rfl; have b7 := hO.box hE.size 0 rfl (k := 7) rfl; have b8 := hO.box hE.size 0 rfl (k := 8) rfl; have c1 := c0 _ hE)
                | (at_builtin; refine wpList_append_at hO hE (by repeat (first | exact Ext.refl _ | assumption | refine Ext.of_drew ?_ | refine Ext.alloc ?_ _ | refine Ext.drew ?_ | refine Ext.trans ?_ (by assumption))) 3 rfl rfl (.tmp 117) (.tmp 124) 41 rfl iS _ 16 Try.underlying41 hiS hzS hsS hbS rfl (by omega) rfl _ 1 1 [.string xch[q].key] rfl rfl (one_cell (by simp)) (one_new rfl) (by unfold maxLen; omega) (by omega) ?_; intro k117a k117c w3 hO' hE'; replace hO := hO'; replace hE := hE'; clear hO' hE'; dsimp only [List.set] at hO; clear b1 b7 b8; have b1 := hO.box hE.size 0 rfl (k := 1) rfl; have b7 := hO.box hE.size 0 rfl (k := 7) rfl; have b8 := hO.box hE.size 0 rfl (k := 8) rfl))
              refine ⟨⟨q + 1, k113a, k113c, k117a, k117c, by omega, by rw [hsn.out]; simp, by rw [hsn.out]; simp, by go_num, hE, ?_⟩, by simp [intOf]; omega⟩
              rw [hsn.out, List.map_append, List.map_append, List.length_append]
              exact hO
            · have : q = xch.length := by omega
              subst this
              go_wp2_with (go_at_call 26; refine Owns.looks hO hE (Ext.refl _) 1 rfl (fun F hF => count_any _ _ F _ hF) ?_; intro w2 hO' hE' _; replace hO := hO'; replace hE := hE'; clear hO' hE'; dsimp only; rw [hst2])
              refine ⟨⟨j + 1, st ++ [(nn, keysOf xch)], nn, xa, ya, xk, yk, k102a, k102c, by omega, by rw [nq_all], by rw [nq_all], by rw [hst2], rfl, by go_num, ⟨hE, hnn0, by omega, by rw [hst2]; omega, ?_, ?_, ?_⟩⟩, by simp [intOf]; omega⟩
              · rw [pairs_snoc]; simp [keysOf]; omega
              · intro d hd
                rcases List.mem_append.1 hd with hd | hd
                · exact heach d hd
                · rw [List.mem_singleton.1 hd]; simpa [keysOf] using hc20
              · have := hO.tail
                rw [nq_all] at this
                rw [hst2, List.map_append]
                exact this
        | false =>
          cases hk2 : xkind.toList == [102, 111, 114, 103, 101, 116] with
          | true =>
            obtain ⟨hE, hm0, hm1, hsts, hprs, heach, hO0⟩ := hR
            have hO := Owns.new hO0 ((Ext.refl wr).alloc (.cells #[.string xkind, .int .i64 xA, .int .i64 xB, .int .i64 xC, .int .u64 xK, .string xS, .string xT, .slice xcp xch.length xcc, .slice xsp xspn.length xsc] 45)) (Box.new wr [.string xkind, .int .i64 xA, .int .i64 xB, .int .i64 xC, .int .u64 xK, .string xS, .string xT, .slice xcp xch.length xcc, .slice xsp xspn.length xsc] 45) (fun b hb => Nat.le_of_eq hb.symm) hE.size
            clear hO0
            replace hE := hE.trans ((Ext.refl wr).alloc (.cells #[.string xkind, .int .i64 xA, .int .i64 xB, .int .i64 xC, .int .u64 xK, .string xS, .string xT, .slice xcp xch.length xcc, .slice xsp xspn.length xsc] 45))
            have b1 := hO.box hE.size 0 rfl (k := 1) rfl
            have b7 := hO.box hE.size 0 rfl (k := 7) rfl
            have b8 := hO.box hE.size 0 rfl (k := 8) rfl
            go_wp2_with (go_at_call 24; refine Owns.calls hO hE (Ext.refl _) 1 rfl (fun F hF => forget_young _ st F xA _ hF (by omega)) ?_; intro w2 hO' hE'; replace hO := hO'; replace hE := hE'; clear hO' hE'; dsimp only [List.set] at hO; dsimp only; clear b1 b7 b8; have b1 := hO.box hE.size 0 rfl (k := 1) rfl; have b7 := hO.box hE.size 0 rfl (k := 7) rfl; have b8 := hO.box hE.size 0 rfl (k := 8) rfl; clear k0 k1 k2 k3 k4 k5 k6 k7 k8)
            have hKp := Lib.hid (pairs_young st xA)
            have hO1 := Owns.new (Owns.new (Owns.new hO (Ext.refl _) (Row.nil 3 1) (fun _ h => h.elim) hE.size) (Ext.refl _) (Row.nil 9 1) (fun _ h => h.elim) hE.size) (Ext.refl _) (Row.nil 3 1) (fun _ h => h.elim) hE.size
            rename World => w5
            clear hO
            go_loopw [12, 14, 15] (fun vx vz i wr2 => ∃ (q : Nat) (xx : Option Addr) (xy : Nat) (zx : Option Addr) (zy : Nat), q ≤ (pairs st).length ∧ vx = .slice xx (newer xA (pairs st) q).length xy ∧ vz = .slice zx (newer xA (pairs st) q).length zy ∧ i = .int .i64 q ∧ Ext W wr2 ∧
              Owns W.heap.size wr2 [Row 3 1 (.slice xx (newer xA (pairs st) q).length xy) (newer xA (pairs st) q).length ((newer xA (pairs st) q).map intV), Row 9 1 (.slice zx (newer xA (pairs st) q).length zy) (newer xA (pairs st) q).length ((newer xA (pairs st) q).map keyV),
                Row 3 1 (.slice none 0 0) 0 [],
                Box wr.heap.size [.string xkind, .int .i64 xA, .int .i64 xB, .int .i64 xC, .int .u64 xK, .string xS, .string xT, .slice xcp xch.length xcc, .slice xsp xspn.length xsc] 45,
                Hist w1.heap.size (young xA st),
                Row 3 1 (.slice xa (pairs st).length ya) (pairs st).length ((pairs st).map intV), Row 9 1 (.slice xk (pairs st).length yk) (pairs st).length ((pairs st).map keyV), Row 3 1 (.slice xd st.length yd) st.length (st.map deedV)]) (fun _ _ i _ => (pairs st).length - (intOf i).toNat)
            case atStart => exact ⟨0, none, 0, none, 0, by omega, rfl, rfl, rfl, hE, hO1⟩
            case round =>
              clear hO1 hE b1 b7 b8
              obtain ⟨q, xx, xy, zx, zy, hq, rfl, rfl, rfl, hE, hO⟩ := hrel
              rename World => w6
              have b1 := hO.box hE.size 3 rfl (k := 1) rfl
              by_cases hqc : q < (pairs st).length
              · obtain ⟨pn, pk, hp⟩ : ∃ n k, (pairs st)[q] = (n, k) := ⟨_, _, rfl⟩
                have hq5 : ((pairs st).map intV)[q]? = some (.int .i64 pn) := by rw [List.getElem?_map, List.getElem?_eq_getElem hqc, hp]; rfl
                have hq6 : ((pairs st).map keyV)[q]? = some (.string pk) := by rw [List.getElem?_map, List.getElem?_eq_getElem hqc, hp]; rfl
                have hql := newer_len xA (pairs st) q
                have hsn := newer_snoc xA (pairs st) q hqc
                rw [hp] at hsn
                replace hsn := Lib.hid hsn
                clear hp
                obtain ⟨g5, o5, rfl⟩ := (hO.vals hE.size 5 rfl).some hq5
                obtain ⟨g6, o6, rfl⟩ := (hO.vals hE.size 6 rfl).some hq6
                have v5 := (hO.vals hE.size 5 rfl).get hq5
                have v6 := (hO.vals hE.size 6 rfl).get hq6
                go_wp2_with fail
                refine wp_region_ord ((0, 0) :: (0, 1) :: (0, 2) :: (1, 3) :: (0, 4) :: (1, 5) :: (0, 6) :: []) (by kernel_rfl) (by kernel_rfl) rfl (fun _ _ d _ _ h => by cases d <;> exact h) ?_; have hx0 := Ext.drew_self w6; (repeat (first | (apply inOrd_p _ rfl rfl rfl; focus (intro w9 K hK; (repeat (first | go_skip | go_guarded | go_step)); exact hK)) | (apply inOrd_l _ rfl rfl rfl; focus (intro w9 hx9 K hK; have f1 := (hx0.trans hx9).some v5; have f2 := (hx0.trans hx9).some b1; (repeat (first | go_skip | go_guarded | go_step)); exact hK)))); clear hx0; refine inOrd_nil ?_
                replace hO := hO.ext (Ext.drew_self w6)
                replace hE := hE.trans (Ext.drew_self w6)
                replace v5 := (Ext.drew_self w6).some v5
                replace v6 := (Ext.drew_self w6).some v6
                by_cases hnew : xA < pn
                · go_wp2_with (first
                    | (at_builtin; refine wpList_append_at hO hE (by repeat (first | exact Ext.refl _ | assumption | refine Ext.of_drew ?_ | refine Ext.alloc ?_ _ | refine Ext.drew ?_ | refine Ext.trans ?_ (by assumption))) 0 rfl rfl (.tmp 145) (.tmp 150) 40 rfl iI _ 8 Try.underlying40 hiI hzI hsI hbI rfl (by omega) rfl _ 1 1 [.int .i64 pn] rfl rfl (one_cell (by simp)) (one_new rfl) (by unfold maxLen; omega) (by omega) ?_; intro k145a k145c w3 hO' hE'; replace hO := hO'; replace hE := hE'; clear hO' hE'; dsimp only [List.set] at hO; clear v5 v6; have v6 := (hO.vals hE.size 6 rfl).get hq6)
                    | (at_builtin; refine wpList_append_at hO hE (by repeat (first | exact Ext.refl _ | assumption | refine Ext.of_drew ?_ | refine Ext.alloc ?_ _ | refine Ext.drew ?_ | refine Ext.trans ?_ (by assumption))) 1 rfl rfl (.tmp 152) (.tmp 157) 41 rfl iS _ 16 Try.underlying41 hiS hzS hsS hbS rfl (by omega) rfl _ 1 1 [.string pk] rfl rfl (one_cell (by simp)) (one_new rfl) (by unfold maxLen; omega) (by omega) ?_; intro k152a k152c w3 hO' hE'; replace hO := hO'; replace hE := hE'; clear hO' hE'; dsimp only [List.set] at hO))
                  have e1 : newer xA (pairs st) (q + 1) = newer xA (pairs st) q ++ [(pn, pk)] := by rw [hsn.out]; simp [hnew]
                  refine ⟨⟨q + 1, k145a, k145c, k152a, k152c, by omega, by rw [e1]; simp, by rw [e1]; simp, by go_num, hE, ?_⟩, by simp [intOf]; omega⟩
                  rw [e1, List.map_append, List.map_append, List.length_append]
                  exact hO
                · go_wp2_with fail
                  have e1 : newer xA (pairs st) (q + 1) = newer xA (pairs st) q := by rw [hsn.out]; simp; omega
                  refine ⟨⟨q + 1, xx, xy, zx, zy, by omega, by rw [e1], by rw [e1], by go_num, hE, ?_⟩, by simp [intOf]; omega⟩
                  rw [e1]
                  exact hO
              · have hqe : q = (pairs st).length := by omega
                subst hqe
                rw [hKp.out] at hO
                have e0 : (newer xA (pairs st) (pairs st).length).length = (pairs (young xA st)).length := by rw [hKp.out]
                rw [e0]
                clear e0
                have hfl2 := young_len xA st
                have hfl3 : (pairs (young xA st)).length ≤ (pairs st).length := by rw [← hKp.out]; exact newer_len _ _ _
                go_wp2_with fail
                rename World => w7
                go_loopw [13, 16] (fun vy i wr2 => ∃ (q : Nat) (dx : Option Addr) (dy : Nat), q ≤ st.length ∧ vy = .slice dx (newerD xA st q).length dy ∧ i = .int .i64 q ∧ Ext W wr2 ∧
                  Owns W.heap.size wr2 [Row 3 1 (.slice xx (pairs (young xA st)).length xy) (pairs (young xA st)).length ((pairs (young xA st)).map intV), Row 9 1 (.slice zx (pairs (young xA st)).length zy) (pairs (young xA st)).length ((pairs (young xA st)).map keyV),
                    Row 3 1 (.slice dx (newerD xA st q).length dy) (newerD xA st q).length ((newerD xA st q).map deedV),
                    Box wr.heap.size [.string xkind, .int .i64 xA, .int .i64 xB, .int .i64 xC, .int .u64 xK, .string xS, .string xT, .slice xcp xch.length xcc, .slice xsp xspn.length xsc] 45,
                    Hist w1.heap.size (young xA st),
                    Row 3 1 (.slice xa (pairs st).length ya) (pairs st).length ((pairs st).map intV), Row 9 1 (.slice xk (pairs st).length yk) (pairs st).length ((pairs st).map keyV), Row 3 1 (.slice xd st.length yd) st.length (st.map deedV)]) (fun _ i _ => st.length - (intOf i).toNat)
                case atStart => exact ⟨0, none, 0, by omega, rfl, rfl, hE, hO⟩
                case round =>
                  clear hO hE b1
                  obtain ⟨q, dx, dy, hq, rfl, rfl, hE, hO⟩ := hrel
                  rename World => w6
                  have b1 := hO.box hE.size 3 rfl (k := 1) rfl
                  by_cases hqc : q < st.length
                  · obtain ⟨pn, pk, hp⟩ : ∃ n k, st[q] = (n, k) := ⟨_, _, rfl⟩
                    have hq5 : (st.map deedV)[q]? = some (.int .i64 pn) := by rw [List.getElem?_map, List.getElem?_eq_getElem hqc, hp]; rfl
                    have hql := newerD_len xA st q
                    have hsn := newerD_snoc xA st q hqc
                    rw [hp] at hsn
                    replace hsn := Lib.hid hsn
                    clear hp
                    obtain ⟨g5, o5, rfl⟩ := (hO.vals hE.size 7 rfl).some hq5
                    have v5 := (hO.vals hE.size 7 rfl).get hq5
                    go_wp2_with fail
                    refine wp_region_ord ((0, 0) :: (0, 1) :: (0, 2) :: (1, 3) :: (0, 4) :: (1, 5) :: (0, 6) :: []) (by kernel_rfl) (by kernel_rfl) rfl (fun _ _ d _ _ h => by cases d <;> exact h) ?_; have hx0 := Ext.drew_self w6; (repeat (first | (apply inOrd_p _ rfl rfl rfl; focus (intro w9 K hK; (repeat (first | go_skip | go_guarded | go_step)); exact hK)) | (apply inOrd_l _ rfl rfl rfl; focus (intro w9 hx9 K hK; have f1 := (hx0.trans hx9).some v5; have f2 := (hx0.trans hx9).some b1; (repeat (first | go_skip | go_guarded | go_step)); exact hK)))); clear hx0; refine inOrd_nil ?_
                    replace hO := hO.ext (Ext.drew_self w6)
                    replace hE := hE.trans (Ext.drew_self w6)
                    replace v5 := (Ext.drew_self w6).some v5
                    by_cases hnew : xA < pn
                    · go_wp2_with (at_builtin; refine wpList_append_at hO hE (by repeat (first | exact Ext.refl _ | assumption | refine Ext.of_drew ?_ | refine Ext.alloc ?_ _ | refine Ext.drew ?_ | refine Ext.trans ?_ (by assumption))) 2 rfl rfl (.tmp 172) (.tmp 177) 40 rfl iI _ 8 Try.underlying40 hiI hzI hsI hbI rfl (by omega) rfl _ 1 1 [.int .i64 pn] rfl rfl (one_cell (by simp)) (one_new rfl) (by unfold maxLen; omega) (by omega) ?_; intro k172a k172c w3 hO' hE'; replace hO := hO'; replace hE := hE'; clear hO' hE'; dsimp only [List.set] at hO)
                      have e1 : newerD xA st (q + 1) = newerD xA st q ++ [(pn, pk)] := by rw [hsn.out]; simp [hnew]
                      refine ⟨⟨q + 1, k172a, k172c, by omega, by rw [e1]; simp, by go_num, hE, ?_⟩, by simp [intOf]; omega⟩
                      rw [e1, List.map_append, List.length_append]
                      exact hO
                    · go_wp2_with fail
                      have e1 : newerD xA st (q + 1) = newerD xA st q := by rw [hsn.out]; simp; omega
                      refine ⟨⟨q + 1, dx, dy, by omega, by rw [e1], by go_num, hE, ?_⟩, by simp [intOf]; omega⟩
                      rw [e1]
                      exact hO
                  · have hqe : q = st.length := by omega
                    subst hqe
                    rw [newerD_young] at hO
                    have e2 : (newerD xA st st.length).length = (young xA st).length := by rw [newerD_young]
                    rw [e2]
                    clear e2
                    go_wp2_with (go_at_call 26; refine Owns.looks hO hE (Ext.refl _) 4 rfl (fun F hF => count_any _ _ F _ hF) ?_; intro w2 hO' hE' _; replace hO := hO'; replace hE := hE'; clear hO' hE'; dsimp only)
                    refine ⟨⟨j + 1, young xA st, m, xx, xy, zx, zy, dx, dy, by omega, rfl, rfl, rfl, rfl, by go_num, ⟨hE, hm0, by omega, by omega, by omega, fun d hd => heach d (List.mem_filter.1 hd).1, ?_⟩⟩, by simp [intOf]; omega⟩
                    exact ((((hO.drop 7).drop 6).drop 5).drop 3).front 3 rfl
          | false =>
            obtain ⟨hE, hm0, hm1, hsts, hprs, heach, hO0⟩ := hR
            have hO := Owns.new hO0 ((Ext.refl wr).alloc (.cells #[.string xkind, .int .i64 xA, .int .i64 xB, .int .i64 xC, .int .u64 xK, .string xS, .string xT, .slice xcp xch.length xcc, .slice xsp xspn.length xsc] 45)) (Box.new wr [.string xkind, .int .i64 xA, .int .i64 xB, .int .i64 xC, .int .u64 xK, .string xS, .string xT, .slice xcp xch.length xcc, .slice xsp xspn.length xsc] 45) (fun b hb => Nat.le_of_eq hb.symm) hE.size
            clear hO0
            replace hE := hE.trans ((Ext.refl wr).alloc (.cells #[.string xkind, .int .i64 xA, .int .i64 xB, .int .i64 xC, .int .u64 xK, .string xS, .string xT, .slice xcp xch.length xcc, .slice xsp xspn.length xsc] 45))
            have b1 := hO.box hE.size 0 rfl (k := 1) rfl
            have b7 := hO.box hE.size 0 rfl (k := 7) rfl
            have b8 := hO.box hE.size 0 rfl (k := 8) rfl
            have xat := hO.vals hE.size 2 rfl
            have xks := hO.vals hE.size 3 rfl
            go_wp2_with fail
            generalize wr.alloc (.cells #[.string xkind, .int .i64 xA, .int .i64 xB, .int .i64 xC, .int .u64 xK, .string xS, .string xT, .slice xcp xch.length xcc, .slice xsp xspn.length xsc] 45) = w6 at *
            have hslN := hsl
            unfold maxLen at hslN
            go_loopw [17, 18] (fun vc i wr2 => ∃ k : Nat, k ≤ (pairs st).length ∧ vc = .bool (rdAll xspn xA (pairs st) k) ∧ i = .int .i64 k ∧ Ext w6 wr2) (fun _ i _ => (pairs st).length - (intOf i).toNat)
            case atStart => exact ⟨0, by omega, by rw [rdAll_zero], rfl, Ext.refl _⟩
            case round =>
              obtain ⟨k, hk, rfl, rfl, hX⟩ := hrel
              rename World => w7
              by_cases hkc : k < (pairs st).length
              · have hsn := rdAll_snoc xspn xA (pairs st) k hkc
                obtain ⟨pn, pk, hp⟩ : ∃ n k', (pairs st)[k] = (n, k') := ⟨_, _, rfl⟩
                have hq5 : ((pairs st).map intV)[k]? = some (.int .i64 pn) := by rw [List.getElem?_map, List.getElem?_eq_getElem hkc, hp]; rfl
                have hq6 : ((pairs st).map keyV)[k]? = some (.string pk) := by rw [List.getElem?_map, List.getElem?_eq_getElem hkc, hp]; rfl
                rw [hp] at hsn
                clear hp
                obtain ⟨g5, o5, rfl⟩ := xat.some hq5
                obtain ⟨g6, o6, rfl⟩ := xks.some hq6
                have v5 := xat.get hq5
                have v6 := xks.get hq6
                have f1 := hX.some b1
                have f2 := hX.some b8
                go_wp2_with fail
                generalize rdAll xspn xA (pairs st) k = c at *
                replace hsn := Lib.hid hsn
                clear f1 f2
                go_loopw [17, 19] (fun vc i wr3 => ∃ j : Nat, j ≤ xspn.length ∧ vc = .bool (rdOne xspn xA (pn, pk) c j) ∧ i = .int .i64 j ∧ Ext w6 wr3) (fun _ i _ => xspn.length - (intOf i).toNat)
                case atStart => exact ⟨0, by omega, by rw [rdOne_zero], rfl, hX⟩
                case round =>
                  clear hX
                  obtain ⟨j, hj, rfl, rfl, hX⟩ := hrel
                  rename World => w8
                  have f1 := hX.some b1
                  have f2 := hX.some b8
                  by_cases hjc : j < xspn.length
                  · have hs1 := rdOne_snoc xspn xA (pn, pk) c j hjc
                    dsimp only at hs1
                    rcases hsW.ext hE with rfl | ⟨bs, os, rfl, hcs⟩
                    · simp at hjc
                    have hcj := hcs j hjc
                    clear hcs
                    generalize xspn[j] = sp at *
                    obtain ⟨lo, hi⟩ := sp
                    dsimp only at hcj
                    obtain ⟨hc1, hc2⟩ := hcj
                    have HX := Lib.hid (fun (w' : World) (hx : Ext w6 w') => (⟨hx.some b1, hx.some b8, hx.some v5, hx.some v6, hx.some hc1, hx.some hc2⟩ : _ ∧ _ ∧ _ ∧ _ ∧ _ ∧ _))
                    generalize rdOne xspn xA (pn, pk) c j = c1 at *
                    replace hs1 := Lib.hid hs1
                    go_wp2_with fail
                    refine wp_region_ord ((0, 0) :: (1, 1) :: (0, 2) :: (0, 3) :: (1, 4) :: (0, 5) :: (0, 6) :: (0, 7) :: (1, 8) :: (2, 9) :: (0, 10) :: []) (by kernel_rfl) (by kernel_rfl) rfl (fun _ _ d _ _ h => by cases d <;> exact h) ?_; replace hX := hX.trans (Ext.drew_self _); (repeat (first | (apply inOrd_p _ rfl rfl rfl; focus (intro w9 K hK; (repeat (first | go_skip | go_guarded | go_step)); exact hK)) | (apply inOrd_l _ rfl rfl rfl; focus (intro w9 hx9 K hK; have hh := HX.out w9 (hX.trans hx9); obtain ⟨f1, f2, f3, f4, f5, f6⟩ := hh; (repeat (first | go_skip | go_guarded | go_step)); exact hK)) | (apply inOrd_q _ rfl; (focus (intro w9 hx9 K hK; (repeat (first | go_skip | go_guarded | go_step | (go_at_call 11; refine Calls.mono (rhas_any _ _ _ _) ?_; rintro e7 w7 ⟨rfl, hx7⟩; dsimp only))); (first | exact hx7 | exact hK _ hx7))); (focus (exact rfl)); intro w9 hx9; replace hX := hX.trans hx9; clear hx9))); refine inOrd_nil ?_ -- M1
                    go_wp2_with fail
                    generalize Sp.has ⟨lo, hi⟩ pk = b0 at *
                    cases c1 <;> cases b0
                    all_goals (refine wp_region_ord ((0, 0) :: (0, 1) :: (0, 2) :: (0, 3) :: (0, 4) :: (0, 5) :: (0, 6) :: (1, 7) :: (0, 8) :: (1, 9) :: (0, 10) :: (0, 11) :: (0, 12) :: (0, 13) :: (0, 14) :: []) (by kernel_rfl) (by kernel_rfl) rfl (fun _ _ d _ _ h => by cases d <;> exact h) ?_; replace hX := hX.trans (Ext.drew_self _); (repeat (first | (apply inOrd_p _ rfl rfl rfl; focus (intro w9 K hK; (repeat (first | go_skip | go_guarded | go_step)); exact hK)) | (apply inOrd_l _ rfl rfl rfl; focus (intro w9 hx9 K hK; have hh := HX.out w9 (hX.trans hx9); obtain ⟨f1, f2, f3, f4, f5, f6⟩ := hh; (repeat (first | go_skip | go_guarded | go_step)); exact hK)) | (apply inOrd_q _ rfl; (focus (intro w9 hx9 K hK; (repeat (first | go_skip | go_guarded | go_step | (go_at_call 11; refine Calls.mono (rhas_any _ _ _ _) ?_; rintro e7 w7 ⟨rfl, hx7⟩; dsimp only))); (first | exact hx7 | exact hK _ hx7))); (focus (exact rfl)); intro w9 hx9; replace hX := hX.trans hx9; clear hx9))); refine inOrd_nil ?_)
                    all_goals go_wp2_with fail
                    all_goals (refine ⟨⟨j + 1, by omega, ?_, by go_num, hX⟩, by simp [intOf]; omega⟩; rw [hs1.out])
                    · rfl
                    · rfl
                    · rfl
                    · simp
                  · obtain rfl : j = xspn.length := by omega
                    go_wp2_with fail
                    exact ⟨⟨k + 1, by omega, by rw [hsn.out], by go_num, hX⟩, by simp [intOf]; omega⟩
              · obtain rfl : k = (pairs st).length := by omega
                have f1 := hX.some b1
                have f2 := hX.some b8
                rw [rdAll_clear]
                replace hO := hO.ext hX
                replace hE := hE.trans hX
                generalize hcl : clearOf st xspn xA = c at *
                go_wp2_with (first
                  | (go_at_call 25; refine Owns.looks hO hE (Ext.refl _) 1 rfl (fun F hF => clear_any _ st F xsp xsc xspn xA _ hF (by omega) (fun d hd => by have := heach d hd; omega) hsl (hsW.ext hE)) ?_; intro w2 hO' hE' _; replace hO := hO'; replace hE := hE'; clear hO' hE'; dsimp only; rw [hcl])
                  | (go_at_call 26; refine Owns.looks hO hE (Ext.refl _) 1 rfl (fun F hF => count_any _ _ F _ hF) ?_; intro w2 hO' hE' _; replace hO := hO'; replace hE := hE'; clear hO' hE'; dsimp only))
                refine ⟨⟨j + 1, st, m, xa, ya, xk, yk, xd, yd, by omega, rfl, rfl, rfl, rfl, by go_num, ⟨hE, hm0, by omega, by omega, by omega, heach, hO.tail⟩⟩, by simp [intOf]; omega⟩
      · have : j = l.length := by omega
        subst this
        have hE := hR.ext
        go_wp2
        go_ret
        exact ⟨rfl, (by repeat (first | exact Ext.refl _ | assumption | refine Ext.of_drew ?_ | refine Ext.alloc ?_ _ | refine Ext.drew ?_ | refine Ext.trans ?_ (by assumption)))⟩
end Go.Proofs.Ytmjdgcgmlgbfjaa
