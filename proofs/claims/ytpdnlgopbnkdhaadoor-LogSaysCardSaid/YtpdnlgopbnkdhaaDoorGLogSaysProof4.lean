/- Texts Row1, Door3, Span, Span2, Read, Ch, Change0, Acts, ReadActs, Args2, Keys, Row2, Row3, Row4 of this claim, laid together. -/
import Derived.Test.YtpdnlgopbnkdhaaDoorGLogSaysProof2
import Derived.Test.YtpdnlgopbnkdhaaDoorGLogSaysProof3
import Derived.Test.YtpdnlgopbnkdhaaDoorGLogSaysProof1
import Derived.Test.YtpdnlgopbnkdhaaDoorRows
import Derived.ProofKit
import Derived.LaidMore
import Derived.Stop.LaidErr
import Derived.Stop.Joined
import Derived.WalkSpells
import Derived.WalkLawsBesides
import Derived.Lib.Hide
import Derived.Deep.Slices
import Derived.OwnWalk
import Derived.Lib.IndexMore
import Derived.Lib.AtoiAll
import Derived.Lib.ItoaNum
set_option linter.unusedVariables false
set_option linter.unusedSimpArgs false
namespace Go.Proofs.YtpdnlgopbnkdhaaDoor
open Go.RowKit
/-- May the byte at i stand there? -/
def OkAt (i : Nat) (c : UInt8) : Prop := (97 ≤ c.toNat ∧ c.toNat ≤ 122) ∨ (0 < i ∧ 48 ≤ c.toNat ∧ c.toNat ≤ 57)
instance (i : Nat) (c : UInt8) : Decidable (OkAt i c) := by unfold OkAt; infer_instance
/-- May it be a name? -/
def NameOk (s : ByteArray) : Prop := 1 ≤ s.size ∧ s.size ≤ 6 ∧ ∀ i (h : i < s.size), OkAt i s[i]
instance (s : ByteArray) : Decidable (NameOk s) := by unfold NameOk; infer_instance
set_option maxHeartbeats 1000000 in
set_option maxRecDepth 100000 in
theorem name_any (s : ByteArray) (w : World) (hs : s.size ≤ 1000) : Calls Tryd.prog 85 #[.string s] w fun e w' => e = .returned (.bool (decide (NameOk s))) ∧ w' = w := by
  go_enter Tryd.func85, Tryd.ntmps85
  go_wp2
  go_loop [6] (fun i => ∃ k : Nat, k ≤ s.size ∧ i = .int .i64 k ∧ Hid (∀ i (h : i < s.size), i < k → OkAt i s[i])) (fun i => s.size - (intOf i).toNat)
  case atStart => exact ⟨0, by omega, rfl, Lib.hid (fun i _ h => by omega)⟩
  case round =>
    obtain ⟨k, hk, rfl, HK⟩ := hrel
    by_cases hlt : k < s.size
    · rcases Nat.eq_zero_or_pos k with rfl | hk0
      · go_wp2
        all_goals first
          | (go_ret; refine ⟨retB (decide_eq_false (fun hn => ?_)).symm, rfl⟩; have := hn.2.2 0 hlt; unfold OkAt at this; omega)
          | (refine ⟨⟨1, by omega, by go_num, Lib.hid (fun i hi h => ?_)⟩, by simp [intOf]; omega⟩; obtain rfl : i = 0 := by omega
             unfold OkAt; omega)
      · have hk1 : ((k : Int) == 0) = false := by simp; omega
        go_wp2
        all_goals first
          | (go_ret; refine ⟨retB (decide_eq_false (fun hn => ?_)).symm, rfl⟩; have := hn.2.2 k hlt; unfold OkAt at this; omega)
          | (refine ⟨⟨k + 1, by omega, by go_num, Lib.hid (fun i hi h => ?_)⟩, by simp [intOf]; omega⟩; rcases Nat.lt_or_ge i k with h2 | h2
             · exact HK.out i hi h2
             · obtain rfl : i = k := by omega
               unfold OkAt; omega)
    · have hall : ∀ i (h : i < s.size), OkAt i s[i] := fun i h => HK.out i h (by omega)
      have hsz : s.toList.length = s.size := by rw [ByteArray.toList_eq]; rfl
      have hN : decide (NameOk s) = (decide (1 ≤ s.size) && decide (s.size ≤ 6)) := by
        rw [Bool.eq_iff_iff, Bool.and_eq_true, decide_eq_true_eq, decide_eq_true_eq, decide_eq_true_eq]
        exact ⟨fun h => ⟨h.1, h.2.1⟩, fun h => ⟨h.1, h.2, hall⟩⟩
      clear hall
      go_wp2
      · rename_i h _
        have : s.size = 0 := by rw [← hsz, h]; rfl
        go_ret
        exact ⟨retB (by simp [this]), rfl⟩
      · rename_i h _
        have : 1 ≤ s.size := by
          rw [← hsz]
          cases hl : s.toList with
          | nil => exact absurd hl h
          | cons _ _ => simp
        go_ret
        exact ⟨retB (by rw [decide_eq_true (p := 1 ≤ s.size) this, Bool.true_and, show s.toList.isEmpty = false from by simpa using h, Bool.not_false, Bool.true_and, Bool.eq_iff_iff, decide_eq_true_eq, decide_eq_true_eq]; omega), rfl⟩
set_option maxHeartbeats 1000000 in
set_option maxRecDepth 100000 in
theorem nameMay_any (s : ByteArray) (w : World) (hs : s.size ≤ 1000) : Calls Tryd.prog 94 #[.string s] w fun e w' => e = .returned (.bool (decide (NameOk s))) ∧ w' = w := by
  by_cases hsz : 1 ≤ s.size ∧ s.size ≤ 6
  · have h0 : 0 < s.size := by omega
    by_cases hf : 97 ≤ s[0].toNat ∧ s[0].toNat ≤ 122
    · go_enter Tryd.func94, Tryd.ntmps94
      go_wp2
      all_goals (try (exfalso; omega))
      go_loop [3] (fun i => ∃ k : Nat, k ≤ s.size ∧ i = .int .i64 k ∧ Hid (∀ i (h : i < s.size), i < k → OkAt i s[i])) (fun i => s.size - (intOf i).toNat)
      case atStart => exact ⟨0, by omega, rfl, Lib.hid (fun i _ h => by omega)⟩
      case round =>
        obtain ⟨k, hk, rfl, HK⟩ := hrel
        by_cases hlt : k < s.size
        · rcases Nat.eq_zero_or_pos k with rfl | hk0
          · go_wp2
            all_goals first
              | (exfalso; omega)
              | (refine ⟨⟨1, by omega, by go_num, Lib.hid (fun i hi h => ?_)⟩, by simp [intOf]; omega⟩; obtain rfl : i = 0 := by omega
                 unfold OkAt; omega)
          · go_wp2
            all_goals (try simp only [Bool.not_eq_true', Bool.not_eq_false', decide_eq_true_eq, decide_eq_false_iff_not] at *)
            all_goals first
              | (go_ret; refine ⟨retB (decide_eq_false (fun hn => ?_)).symm, rfl⟩; have := hn.2.2 k hlt; unfold OkAt at this; omega)
              | (refine ⟨⟨k + 1, by omega, by go_num, Lib.hid (fun i hi h => ?_)⟩, by simp [intOf]; omega⟩; rcases Nat.lt_or_ge i k with h2 | h2
                 · exact HK.out i hi h2
                 · obtain rfl : i = k := by omega
                   unfold OkAt; omega)
        · go_wp2
          go_ret
          exact ⟨retB (decide_eq_true (p := NameOk s) ⟨hsz.1, hsz.2, fun i h => HK.out i h (by omega)⟩).symm, rfl⟩
    · have hN : decide (NameOk s) = false := decide_eq_false (fun hn => by have := hn.2.2 0 h0; unfold OkAt at this; omega)
      rw [hN]
      go_enter Tryd.func94, Tryd.ntmps94
      go_wp2
      all_goals (first | (exfalso; omega) | (go_ret; exact ⟨rfl, rfl⟩) | skip)
  · have hN : decide (NameOk s) = false := decide_eq_false (fun hn => hsz ⟨hn.1, hn.2.1⟩)
    rw [hN]
    go_enter Tryd.func94, Tryd.ntmps94
    go_wp2
    all_goals (first | (exfalso; omega) | (go_ret; exact ⟨rfl, rfl⟩) | skip)
/-! What stands in the library's variables. -/
/-- What a call of strconv and strings leans on. -/
structure LibOk (w : World) : Prop where
  max : ∃ m : Int, w.cell? ⟨0, 0, none⟩ = some (.int .i64 m)
  syn : ∃ t p, w.cell? ⟨1, 0, none⟩ = some (.iface t p)
  rng : ∃ t p, w.cell? ⟨2, 0, none⟩ = some (.iface t p)
  tab : Lib.TabIs Tryd.prog w "internal/strconv.uint64pow10" .u64 Lib.pow10Tab
theorem tab_up {w w' : World} {name : String} {k : IntKind} {zs : List Int} (h : Lib.TabIs Tryd.prog w name k zs) (hx : ∀ b, b < w.heap.size → w'.heap[b]? = w.heap[b]?) : Lib.TabIs Tryd.prog w' name k zs := by
  unfold Lib.TabIs World.var? at *
  cases hg : Tryd.prog.globalNamed name with
  | none => simp [hg] at h
  | some g =>
    simp only [hg, Option.bind_some] at h ⊢
    have hlt : g < w.heap.size := by
      rcases Nat.lt_or_ge g w.heap.size with h' | h'
      · exact h'
      · rw [Array.getElem?_eq_none h'] at h; simp at h
    rw [hx g hlt]
    exact h
theorem LibOk.ext {w w' : World} (h : LibOk w) (hx : Ext w w') : LibOk w' :=
  ⟨h.max.imp fun _ h => hx.some h, h.syn.imp fun _ h => h.imp fun _ h => hx.some h, h.rng.imp fun _ h => h.imp fun _ h => hx.some h, tab_up h.tab hx.block⟩
theorem ext_grow (w : World) (k : Nat) (os : Array Obj) : Ext w (Go.Sort.grow (w.drewN k) os) :=
  ⟨rfl, rfl, rfl, by simp [Go.Sort.grow], fun b hb => by
    show (w.heap ++ os)[b]? = _
    rw [Array.getElem?_append_left hb]⟩
theorem ext_drewN (w : World) (k : Nat) : Ext w (w.drewN k) := ⟨rfl, rfl, rfl, Nat.le_refl _, fun _ _ => rfl⟩
def itoaB (n : Int) : ByteArray := ⟨(Lib.itoa n).toArray⟩
theorem itoa_any (n : Int) (w : World) (h : LibOk w) (h0 : -9223372036854775808 ≤ n) (h1 : n ≤ 9223372036854775807) : Calls Tryd.prog 103 #[.int .i64 n] w fun e w' => e = .returned (.string (itoaB n)) ∧ Ext w w' :=
  (Tryd.strconv_Itoa n h0 h1 w h.tab).mono fun e w' ⟨he, k, os, hw⟩ => ⟨he, hw ▸ ext_grow w k os⟩
def cutB (s sep : ByteArray) : ByteArray × ByteArray × Bool := (⟨(Lib.cut s.data.toList sep.data.toList).1.toArray⟩, ⟨(Lib.cut s.data.toList sep.data.toList).2.1.toArray⟩, (Lib.cut s.data.toList sep.data.toList).2.2)
theorem cut_any (s sep : ByteArray) (w : World) (h : LibOk w) (hs : s.size < 4294967281) : Calls Tryd.prog 84 #[.string s, .string sep] w fun e w' => e = .returned (.tuple #[.string (cutB s sep).1, .string (cutB s sep).2.1, .bool (cutB s sep).2.2]) ∧ Ext w w' := by
  obtain ⟨m, hm⟩ := h.max
  exact (Tryd.strings_Cut s sep m w hs hm).mono fun e w' ⟨he, n, hw⟩ => ⟨he, hw ▸ ext_drewN w n⟩
/-- How Atoi ends. -/
def atoiV (s : ByteArray) : Option Int := match Lib.atoiAll s.data.toList with | .ok v => some v | _ => none
theorem atoi_ok (s : ByteArray) (v : Int) (w : World) (hs : s.size ≤ 1000) (hv : atoiV s = some v) : Calls Tryd.prog 86 #[.string s] w fun e w' => e = .returned (.tuple #[.int .i64 v, .nilIface]) ∧ Ext w w' := by
  have h : Lib.atoiAll s.data.toList = .ok v := by
    unfold atoiV at hv; split at hv
    · cases hv; assumption
    · cases hv
  refine (Tryd.strconv_Atoi_ok s (by omega) v h w).mono fun e w' ⟨he, hw⟩ => ⟨he, ?_⟩
  rcases hw with rfl | ⟨t, rfl⟩
  · exact Ext.refl _
  · exact Lib.bytesWorld_below w _ t
theorem atoi_no (s : ByteArray) (w : World) (h : LibOk w) (hs : s.size ≤ 1000) (hv : atoiV s = none) : Calls Tryd.prog 86 #[.string s] w fun e w' => (∃ x N, e = .returned (.tuple #[.int .i64 x, .iface 181 (.pointer (some ⟨N, 0, none⟩))])) ∧ Ext w w' := by
  rcases hr : Lib.atoiAll s.data.toList with v | _ | _
  · unfold atoiV at hv; rw [hr] at hv; cases hv
  · obtain ⟨t, p, hc⟩ := h.syn
    exact (Tryd.strconv_Atoi_syntax s (by omega) hr _ w hc (.inr ⟨t, p, rfl⟩)).mono fun e w' ⟨N, he, _, _, hb⟩ => ⟨⟨_, N, he⟩, hb⟩
  · obtain ⟨t, p, hc⟩ := h.rng
    exact (Tryd.strconv_Atoi_range s (by omega) hr _ w hc (.inr ⟨t, p, rfl⟩)).mono fun e w' ⟨N, he, _, _, hb⟩ => ⟨⟨_, N, he⟩, hb⟩
end Go.Proofs.YtpdnlgopbnkdhaaDoor
namespace Go.Proofs.YtpdnlgopbnkdhaaDoor
open Go.ChangeShapes Go.WideShapes Go.ChangeAt Go.RowKit Go.Joins
open Go.ChangeMaps (open_string)
section
variable {H : Type} {enc : TypeId × Value → H}
/-- A row with a condition X on its first world, the shape handed on. -/
theorem handed_shaped {a : Assume} {C : Checked} {os : Os} {f : FuncId} {fn : Func} {s : ChangeSpec} {conds : List PathCond} {apart fresh handsOn again : Bool} {X : World → Array Value → Prop}
    (hX : ∀ (w w' : World) (args : Array Value), w.heap = w'.heap → X w args → X w' args)
    (own : ownKnob C.prog.godebug = none) (started : os.Started) (noInit : C.prog.inits.idxOf? f = none) (hfn : C.prog.funcs[f]? = some fn)
    (witness : ∃ (w : World) (tape : Tape) (i : Input), w.os = os ∧ (w.forCall tape i).Shaped C.prog ∧ i.vars = [] ∧ Input.okWide C.prog (w.forCall tape i) .any w.heap.size f i ∧
      ((s.pre enc C.prog fn conds apart (w.forCall tape i).memory i.args ∧ X (w.forCall tape i).memory i.args) ∧ sizedMet enc C.prog fn (OpenSpec.ofChange s) apart (w.forCall tape i).memory i.args) ∧ a.holds C.prog (lone (Frame.enter C.prog f i.args .normal) [] (w.forCall tape i)))
    (contract : ∀ (W : World) (base : Nat) (args : Array Value) (ds gs : List (DataW H)) (before : List MemPlace),
      (∀ (j : Nat) t v, fn.params[j]? = some t → args[j]? = some v → Value.okWide C.prog W .any base t v) →
      DataW.Whole enc C.prog fn.params.toList s.vars apart W args.toList ds gs before → X W args → W.ShapedOpen C.prog →
      Calls C.prog f args W fun e W' => ∃ v, e = .returned v ∧ s.post enc C.prog fn apart fresh handsOn again W args v W') :
    ReturnsInHanded a C os f .any (fun w args => (s.pre enc C.prog fn conds apart w args ∧ X w args) ∧ sizedMet enc C.prog fn (OpenSpec.ofChange s) apart w args) (s.post enc C.prog fn apart fresh handsOn again) := by
  refine returnsInHanded_of_calls own started noInit witness ?_
  intro w tape i _ hsh _ hok hpre hholds
  obtain ⟨_, _, _, fn', hfn', _, _, _, _, hval⟩ := hok
  obtain rfl : fn' = fn := Option.some.inj (hfn'.symm.trans hfn)
  obtain ⟨⟨⟨ds, gs, before, hw, hc⟩, hx⟩, hz⟩ := hpre
  have hw' := DataW.Whole.of_heap (w' := w.forCall tape i) (by rfl) hw
  refine (contract (w.forCall tape i) w.heap.size i.args ds gs before hval hw' (hX _ _ _ (by rfl) hx) hsh).mono fun e W' ⟨v, he, hp⟩ => ?_
  subst he
  exact ChangeSpec.post_blind hp
end
theorem Tryd.star : "*" ++ "errors.errorString" = "*errors.errorString" := by decide
theorem Tryd.errRow (u : TypeId) (h : Tryd.prog.typeName? 3 u = some "*errors.errorString") : u = 205 :=
  typeName_ptr_named (nm := "errors.errorString") (by rw [Tryd.star]; kernel_rfl) (by kernel_rfl) (by decide) u (by rw [Tryd.star]; exact h)
theorem sent_cell {n : String} {g : Nat} {text : List UInt8} {r : List (String × DataW Unit)} {W : World} (hg : Tryd.prog.globalNamed n = some g) (ht : (Tryd.prog.globals[g]?).map (·.type) = some 28)
    (h : laidMet Tryd.prog ((n, .iface "*errors.errorString" (.ptr (.agg [.lit (.string text)]))) :: r) W) : ∃ t p, W.cell? ⟨g, 0, none⟩ = some (.iface t p) := by
  obtain ⟨a, s, hv, _⟩ := laid_sentinel h hg ht Tryd.underlying28 Tryd.errRow Tryd.underlying205 Tryd.underlying207 rfl rfl Tryd.underlying9 (by kernel_rfl) (by kernel_rfl)
  exact ⟨_, _, by simpa using World.var?_cell hg hv 0⟩
theorem tab_of {r : List (String × DataW Unit)} {W : World} (h : laidMet Tryd.prog (("internal/strconv.uint64pow10", Lib.tabData .u64 Lib.pow10Tab) :: r) W) : Lib.TabIs Tryd.prog W "internal/strconv.uint64pow10" .u64 Lib.pow10Tab :=
  Lib.tabIs_of_head (g := 3) (by kernel_rfl) (by kernel_rfl) Tryd.underlying213 Tryd.underlying43 (by kernel_rfl) (by kernel_rfl) h
theorem max_of {W : World} (h : W.ShapedOpen Tryd.prog) : ∃ m : Int, W.cell? ⟨0, 0, none⟩ = some (.int .i64 m) := Tryd.laysM145.s1_3 W h
/-- The five that keys want. -/
theorem lib5 {W : World} (h : laidMetH Tryd.prog Rows.logSaysRow.laid W) (hsh : W.ShapedOpen Tryd.prog) : LibOk W := by
  rw [MakeChecks.laidMetH_plain _ _ _ (by kernel_rfl)] at h
  have h3 := h.tail.tail
  exact ⟨max_of hsh, sent_cell (g := 1) (by kernel_rfl) (by kernel_rfl) h3.tail.tail, sent_cell (g := 2) (by kernel_rfl) (by kernel_rfl) h3.tail, tab_of h3⟩
end Go.Proofs.YtpdnlgopbnkdhaaDoor
namespace Go.Proofs.YtpdnlgopbnkdhaaDoor
open Go.RowKit

/-- A span. -/
structure Sp where
  lo : ByteArray
  hi : ByteArray
def Sp.v (s : Sp) : Value := .agg #[.string s.lo, .string s.hi]
def below (k to : ByteArray) : Bool := to.toList.isEmpty || slt k to
def Sp.has (s : Sp) (k : ByteArray) : Bool := !slt k s.lo && below k s.hi
def Sp.empty (s : Sp) : Bool := !below s.lo s.hi
def toOf (a b : ByteArray) : ByteArray := if a.toList.isEmpty || !b.toList.isEmpty && slt b a then b else a
def Sp.both (a b : Sp) : Sp := ⟨if slt a.lo b.lo then b.lo else a.lo, toOf a.hi b.hi⟩
def Sp.meet (a b : Sp) : Bool := !a.empty && !b.empty && !(a.both b).empty
def Sp.point (k : ByteArray) : Sp := ⟨k, k ++ nul⟩

theorem ret_bool {a b : Bool} (h : a = b) : Ending.returned (.bool a) = .returned (.bool b) := by rw [h]

set_option maxHeartbeats 400000 in
theorem below_any (k to : ByteArray) (w : World) :
    Calls Tryd.prog 91 #[.string k, .string to] w fun e w' => e = .returned (.bool (below k to)) ∧ w' = w := by
  go_enter Tryd.func91, Tryd.ntmps91
  go_wp2
  all_goals (go_ret; refine ⟨?_, rfl⟩; simp [below, slt, *])

set_option maxHeartbeats 400000 in
theorem has_any (lo hi k : ByteArray) (w : World) :
    Calls Tryd.prog 54 #[.agg #[.string lo, .string hi], .string k] w fun e w' => e = .returned (.bool (Sp.has ⟨lo, hi⟩ k)) ∧ Ext w w' := by
  go_enter Tryd.func54, Tryd.ntmps54
  go_wp2_with (go_at_call 91; refine (below_any _ _ _).mono ?_; rintro e w' ⟨rfl, rfl⟩)
  all_goals (go_ret; refine ⟨?_, (Ext.refl _).alloc _⟩; simp [Sp.has, slt, *])

set_option maxHeartbeats 400000 in
theorem point_any (k : ByteArray) (w : World) (hk : k.size ≤ 1000) :
    Calls Tryd.prog 90 #[.string k] w fun e w' => e = .returned (Sp.point k).v ∧ Ext w w' := by
  go_enter Tryd.func90, Tryd.ntmps90
  go_wp2
  refine bodyPost_ret (v := (Sp.point k).v) ?_ rfl ⟨rfl, ?_⟩
  · simp [results, Tryd.results90, go_sem, Sp.v, Sp.point, nul]
  · exact (Ext.refl _).alloc _

set_option maxHeartbeats 400000 in
theorem all_any (w : World) :
    Calls Tryd.prog 53 #[] w fun e w' => e = .returned (Sp.mk .empty .empty).v ∧ Ext w w' := by
  go_enter Tryd.func53, Tryd.ntmps53
  go_wp2
  refine bodyPost_ret (v := (Sp.mk .empty .empty).v) ?_ rfl ⟨rfl, ?_⟩
  · simp [results, Tryd.results53, go_sem, Sp.v]
    rfl
  · exact (Ext.refl _).alloc _

end Go.Proofs.YtpdnlgopbnkdhaaDoor
namespace Go.Proofs.YtpdnlgopbnkdhaaDoor
open Go.RowKit
/-- A slice of n rows of cells, from an address on. -/
def SpansAt (w : World) (a : Option Addr) (l : List Sp) : Prop :=
  l = [] ∨ ∃ b off, a = some ⟨b, off, none⟩ ∧ ∀ i (h : i < l.length), w.cell? ⟨b, off + i * 2, none⟩ = some (.string l[i].lo) ∧ w.cell? ⟨b, off + i * 2 + 1, none⟩ = some (.string l[i].hi)
theorem SpansAt.ext {w w' : World} {a : Option Addr} {l : List Sp} (h : SpansAt w a l) (hx : Ext w w') : SpansAt w' a l :=
  h.imp id fun ⟨b, off, ha, hc⟩ => ⟨b, off, ha, fun i hi => ⟨hx.some (hc i hi).1, hx.some (hc i hi).2⟩⟩
def lightSpans (l : List Sp) : Bool := decide (l.length ≤ 50) && l.all fun s => decide (s.lo.size ≤ 60) && decide (s.hi.size ≤ 60)

theorem lightSpans_many {l : List Sp} (h : 50 < (l.length : Int)) : lightSpans l = false := by
  have : ¬ l.length ≤ 50 := by omega
  simp [lightSpans, this]
def lightSpan (s : Sp) : Bool := decide (s.lo.size ≤ 60) && decide (s.hi.size ≤ 60)
theorem lightSpans_eq {l : List Sp} (h : (l.length : Int) ≤ 50) : lightSpans l = l.all lightSpan := by
  have : l.length ≤ 50 := by omega
  simp [lightSpans, this]; rfl
theorem lightSpan_no {s : Sp} (h : 60 < (s.lo.size : Int) ∨ 60 < (s.hi.size : Int)) : lightSpan s = false := by
  simp [lightSpan]; omega
theorem lightSpan_yes {s : Sp} (h : (s.lo.size : Int) ≤ 60 ∧ (s.hi.size : Int) ≤ 60) : lightSpan s = true := by
  simp [lightSpan]; omega
set_option maxHeartbeats 400000 in
theorem lightSpans_any (a : Option Addr) (cap : Nat) (l : List Sp) (w : World) (hl : l.length ≤ maxLen) (hs : SpansAt w a l) :
    Calls Tryd.prog 52 #[.slice a l.length cap] w fun e w' => e = .returned (.bool (lightSpans l)) ∧ w' = w := by
  unfold maxLen at hl
  go_enter Tryd.func52, Tryd.ntmps52
  go_wp2
  · go_ret
    exact ⟨ret_bool (lightSpans_many (by assumption)).symm, rfl⟩
  · have h50 : (l.length : Int) ≤ 50 := by omega
    go_loop [3] (fun i => ∃ k : Nat, k ≤ l.length ∧ i = .int .i64 k ∧ (l.take k).all lightSpan = true) (fun i => l.length - (intOf i).toNat)
    case atStart => exact ⟨0, by omega, rfl, by simp⟩
    case round =>
      obtain ⟨k, hk, rfl, hall⟩ := hrel
      have HA := Lib.hid hall
      clear hall
      by_cases hlt : k < l.length
      · rcases hs with rfl | ⟨b, off, rfl, hc⟩
        · simp at hlt
        obtain ⟨h1, h2⟩ := hc k hlt
        clear hc
        go_wp2
        · go_ret
          exact ⟨ret_bool ((lightSpans_eq h50).trans (all_false_at _ _ k hlt (lightSpan_no (by assumption)))).symm, rfl⟩
        · exact ⟨⟨k + 1, by omega, by go_num, by rw [all_take_snoc _ _ _ hlt, HA.out, lightSpan_yes (by assumption)]; rfl⟩, by simp [intOf]; omega⟩
        · go_ret
          exact ⟨ret_bool ((lightSpans_eq h50).trans (all_false_at _ _ k hlt (lightSpan_no (.inl (by assumption))))).symm, rfl⟩
      · go_wp2
        go_ret
        exact ⟨ret_bool ((lightSpans_eq h50).trans (all_of_take (by omega) HA.out)).symm, rfl⟩

set_option maxHeartbeats 400000 in
theorem rhas_any (lo hi k : ByteArray) (w : World) :
    Calls Tryd.prog 81 #[.agg #[.string lo, .string hi], .string k] w fun e w' => e = .returned (.bool (Sp.has ⟨lo, hi⟩ k)) ∧ Ext w w' := by
  go_enter Tryd.func81, Tryd.ntmps81
  go_wp2
  all_goals
    go_ret
    refine ⟨ret_bool ?_, (by repeat (first | exact Ext.refl _ | assumption | refine Ext.of_drew ?_ | refine Ext.alloc ?_ _ | refine Ext.drew ?_ | refine Ext.trans ?_ (by assumption)))⟩
    simp only [Sp.has, below, ble_iff, ble_eq] at *
    simp_all [slt]
end Go.Proofs.YtpdnlgopbnkdhaaDoor
namespace Go.Proofs.YtpdnlgopbnkdhaaDoor
open Go.ChangeShapes Go.WideShapes Go.ChangeAt Go.RowKit Go.Joins Go.Deep
open Go.ChangeMaps (open_string)

/-- Rows of cells, one behind the other. -/
def CellsAt (w : World) (a : Option Addr) (sz : Nat) (rows : List (List Value)) : Prop :=
  rows = [] ∨ ∃ b off, a = some ⟨b, off, none⟩ ∧ ∀ i (h : i < rows.length) k (hk : k < rows[i].length), w.cell? ⟨b, off + i * sz + k, none⟩ = some rows[i][k]
theorem CellsAt.ext {w w' : World} {a : Option Addr} {sz : Nat} {rows : List (List Value)} (h : CellsAt w a sz rows) (hx : Ext w w') : CellsAt w' a sz rows :=
  h.imp id fun ⟨b, off, ha, hc⟩ => ⟨b, off, ha, fun i hi k hk => hx.some (hc i hi k hk)⟩

theorem list_of {α : Type} {n : Nat} {p : Nat → α → Prop} (h : ∀ i, i < n → ∃ x, p i x) : ∃ l : List α, l.length = n ∧ ∀ i (hi : i < l.length), p i l[i] := by
  induction n with
  | zero => exact ⟨[], rfl, fun i hi => absurd hi (Nat.not_lt_zero _)⟩
  | succ n ih =>
    obtain ⟨l, hl, hp⟩ := ih fun i hi => h i (Nat.lt_succ_of_lt hi)
    obtain ⟨x, hx⟩ := h n (Nat.lt_succ_self n)
    refine ⟨l ++ [x], by simp [hl], fun i hi => ?_⟩
    by_cases hi' : i < l.length
    · rw [List.getElem_append_left hi']; exact hp i hi'
    · have hin : i = n := by simp [hl] at hi; omega
      subst hin
      rw [List.getElem_append_right (by omega)]
      simpa [hl] using hx
theorem map_of {α β : Type} {f : α → β} : ∀ {rows : List β}, (∀ r ∈ rows, ∃ x, r = f x) → ∃ l : List α, rows = l.map f
  | [], _ => ⟨[], rfl⟩
  | r :: rows, h => by
    obtain ⟨x, hx⟩ := h r (List.mem_cons_self ..)
    obtain ⟨l, hl⟩ := map_of (rows := rows) fun r hr => h r (List.mem_cons_of_mem _ hr)
    exact ⟨x :: l, by rw [hx, hl]; rfl⟩

section
variable {H : Type} {enc : TypeId × Value → H} {P : Program} {w : World} {base : Nat} {spare : Nat → Bool} {held : Bool}
theorem mapM_some {α β : Type} {f : α → Option β} : ∀ {l : List α} {cs : List β}, l.mapM f = some cs → cs.length = l.length ∧ ∀ i (h : i < l.length) (h' : i < cs.length), f l[i] = some cs[i]
  | [], cs, h => by simp at h; subst h; exact ⟨rfl, fun i hi => absurd hi (Nat.not_lt_zero _)⟩
  | x :: l, cs, h => by
    simp only [List.mapM_cons, Option.bind_eq_bind, Option.bind_eq_some_iff, Option.pure_def, Option.some.injEq] at h
    obtain ⟨y, hy, ys, hys, rfl⟩ := h
    obtain ⟨h1, h2⟩ := mapM_some hys
    refine ⟨by simp [h1], fun i hi hi' => ?_⟩
    cases i with
    | zero => exact hy
    | succ i => exact h2 i (by simpa using hi) (by simpa using hi')
theorem cells_of_cells? {a : Addr} {n : Nat} {cs : List Value} (h : w.cells? base a n = some cs) : cs.length = n ∧ ∀ k (hk : k < cs.length), w.cell? (a.add k) = some cs[k] := by
  unfold World.cells? at h
  split at h
  · obtain ⟨h1, h2⟩ := mapM_some h
    have hl : cs.length = n := by simpa using h1
    exact ⟨hl, fun k hk => by have := h2 k (by simpa using (by omega : k < n)) hk; simpa using this⟩
  · cases h

theorem slice_rows {t e : TypeId} {sz fuel : Nat} {cs : List Value} {x : DataW H × List MemPlace} (ht : P.underlying t = some (.slice e)) (hsz : P.cellsOf e = sz) (hpos : 0 < sz)
    (h : DataW.trod enc P w base spare held fuel t cs = some x) :
    ∃ a cap rows, cs = [.slice a (List.length rows) cap] ∧ rows.length ≤ cap ∧ cap ≤ maxLen ∧ CellsAt w a sz rows ∧ ∀ r ∈ rows, r.length = sz ∧ ∃ n y, DataW.trod enc P w base spare held n e r = some y := by
  rcases open_slice ht h with ⟨rfl, _⟩ | ⟨a, len, cap, m, n, D, Pl, rfl, _, hl, hm, hmm, _, hel⟩
  · exact ⟨none, 0, [], rfl, Nat.le_refl _, Nat.zero_le _, .inl rfl, fun r hr => by cases hr⟩
  · have hlm : len ≤ m := by rw [hmm]; split <;> omega
    rw [hsz] at hel
    obtain ⟨rows, hrl, hrows⟩ := list_of fun i (hi : i < len) => hel i (by omega)
    refine ⟨some a, cap, rows, by rw [hrl], by omega, hm, ?_, ?_⟩
    · cases hr : rows with
      | nil => exact .inl rfl
      | cons r0 rs =>
        right
        rw [← hr]
        have h0 := hrows 0 (by rw [hr]; simp)
        obtain ⟨hl0, hc0⟩ := cells_of_cells? h0.1
        have hsp : a.spot = none := by
          have := hc0 0 (by omega)
          cases hs : a.spot with
          | none => rfl
          | some s =>
            unfold World.cell? at this
            simp [Addr.add, hs] at this
            split at this <;> cases this
        refine ⟨a.block, a.off, by cases a; simp_all, fun i hi k hk => ?_⟩
        obtain ⟨hl1, hc1⟩ := cells_of_cells? (hrows i hi).1
        have := hc1 k hk
        rw [← this]
        congr 1
        unfold Addr.add
        cases a
        simp only at hsp
        subst hsp
        by_cases h1 : i * sz = 0 <;> by_cases h2 : k = 0 <;> simp [h1, h2]
    · intro r hr
      obtain ⟨i, hi, rfl⟩ := List.getElem_of_mem hr
      exact ⟨(cells_of_cells? (hrows i hi).1).1, n, _, (hrows i hi).2⟩
/-- Are all fields one cell each, in order? -/
def oneEach (P : Program) (t : TypeId) (fs : Array Field) : Bool := fs.toList.zipIdx.all (fun x => x.1.offset == x.2 && P.cellsOf x.1.type == 1) && P.cellsOf t == fs.size
theorem struct_row {t : TypeId} {fs : Array Field} {n : Nat} {r : List Value} {y : DataW H × List MemPlace} (ht : P.underlying t = some (.struct fs)) (h1 : oneEach P t fs = true)
    (h : DataW.trod enc P w base spare held n t r = some y) : r.length = fs.size ∧ ∀ i f (hi : i < r.length), fs[i]? = some f → ∃ m z, DataW.trod enc P w base spare held m f.type [r[i]] = some z := by
  obtain ⟨xs, m, _, rfl, hl, hlen, hf⟩ := DataW.trod_struct ht h
  simp only [oneEach, Bool.and_eq_true, List.all_eq_true, beq_iff_eq] at h1
  refine ⟨hl.trans h1.2, fun i f hi hfi => ?_⟩
  have hix : (f, i) ∈ fs.toList.zipIdx := by
    rw [List.mem_zipIdx_iff_getElem?]; simpa using hfi
  obtain ⟨ho, hc⟩ := h1.1 (f, i) hix
  simp only at ho hc
  have := hf i f (by simpa using hfi)
  rw [ho, hc, List.drop_eq_getElem_cons hi, List.take_succ_cons, List.take_zero, List.getElem?_eq_getElem (by omega)] at this
  exact ⟨m, _, this⟩
theorem span_row {n : Nat} {r : List Value} {y : DataW H × List MemPlace} (h : DataW.trod enc Tryd.prog w base spare held n 67 r = some y) : ∃ s : Sp, r = [.string s.lo, .string s.hi] := by
  obtain ⟨hl, hf⟩ := struct_row Tryd.underlying67 (by kernel_rfl) h
  match r, hl with
  | [c0, c1], _ =>
    obtain ⟨_, _, h0⟩ := hf 0 _ (by simp) rfl
    obtain ⟨_, _, h1⟩ := hf 1 _ (by simp) rfl
    obtain ⟨lo, e0, _, _⟩ := DataW.trod_string Tryd.underlying9 h0
    obtain ⟨hi, e1, _, _⟩ := DataW.trod_string Tryd.underlying9 h1
    simp at e0 e1
    exact ⟨⟨lo, hi⟩, by rw [e0, e1]⟩
set_option maxRecDepth 100000 in
theorem span_arg {b0 : Nat} {v : Value} {d : DataW H} {p : List MemPlace} (hv : Value.okWide Tryd.prog w .any b0 67 v) (h : DataW.Trod enc Tryd.prog w base spare held 67 v d p) :
    ∃ lo hi : ByteArray, v = .agg #[.string lo, .string hi] := by
  obtain ⟨a0, a1, y0, y1, m, rfl, _, _, hy0, hy1⟩ := open_agg2 Tryd.underlying67 (by kernel_rfl) (by kernel_rfl) hv h
  obtain ⟨lo, e0, _, _⟩ := DataW.trod_string Tryd.underlying9 hy0
  obtain ⟨hi, e1, _, _⟩ := DataW.trod_string Tryd.underlying9 hy1
  simp only [List.cons.injEq, and_true] at e0 e1
  exact ⟨lo, hi, by rw [e0, e1]⟩
set_option maxRecDepth 100000 in
theorem str_arg {b0 : Nat} {v : Value} {d : DataW H} {p : List MemPlace} (hv : Value.okWide Tryd.prog w .any b0 9 v) (h : DataW.Trod enc Tryd.prog w base spare held 9 v d p) :
    ∃ s : ByteArray, v = .string s ∧ s.size ≤ maxLen := by
  obtain ⟨s, rfl, _, _, hs⟩ := open_string Tryd.underlying9 hv h
  exact ⟨s, rfl, hs⟩
theorem spans_of {n : Nat} {cs : List Value} {y : DataW H × List MemPlace} (h : DataW.trod enc Tryd.prog w base spare held n 45 cs = some y) :
    ∃ a cap, ∃ l : List Sp, cs = [.slice a l.length cap] ∧ l.length ≤ maxLen ∧ SpansAt w a l := by
  obtain ⟨a, cap, rows, rfl, h1, h2, h3, h4⟩ := slice_rows (sz := 2) Tryd.underlying45 (by kernel_rfl) (by omega) h
  obtain ⟨l, rfl⟩ := map_of (f := fun s : Sp => [Value.string s.lo, Value.string s.hi]) fun r hr => by obtain ⟨_, n, y, hy⟩ := h4 r hr; exact span_row hy
  refine ⟨a, cap, l, by simp, by simp at h1; omega, h3.imp (by simp) fun ⟨b, off, ha, hc⟩ => ⟨b, off, ha, fun i hi => ?_⟩⟩
  have g0 := hc i (by simpa using hi) 0 (by simp)
  have g1 := hc i (by simpa using hi) 1 (by simp)
  simp at g0 g1
  exact ⟨g0, g1⟩
set_option maxRecDepth 100000 in
theorem spans_arg {b0 : Nat} {v : Value} {d : DataW H} {p : List MemPlace} (hv : Value.okWide Tryd.prog w .any b0 45 v) (h : DataW.Trod enc Tryd.prog w base spare held 45 v d p) :
    ∃ a cap, ∃ l : List Sp, v = .slice a l.length cap ∧ l.length ≤ maxLen ∧ SpansAt w a l := by
  obtain ⟨a0, len, cap, rfl⟩ := okWide_slice Tryd.underlying45 hv
  obtain ⟨n, hf⟩ := h
  obtain ⟨a, cap', l, hcs, h1, h2⟩ := spans_of hf
  simp [Value.cells] at hcs
  obtain ⟨rfl, rfl, rfl⟩ := hcs
  exact ⟨_, _, l, rfl, h1, h2⟩
end
end Go.Proofs.YtpdnlgopbnkdhaaDoor
namespace Go.Proofs.YtpdnlgopbnkdhaaDoor
open Go.RowKit
/-- A change. -/
structure Ch where
  key : ByteArray
  val : ByteArray
  gone : Bool
deriving DecidableEq
def Ch.cells (c : Ch) : List Value := [.string c.key, .string c.val, .bool c.gone]
def Ch.v (c : Ch) : Value := .agg #[.string c.key, .string c.val, .bool c.gone]
def chs (l : List Ch) : List Value := l.flatMap Ch.cells
theorem chs_length (l : List Ch) : (chs l).length = l.length * 3 := flat_length (f := Ch.cells) (k := 3) (fun _ => rfl) l
theorem Ch.ones (x : Ch) : ∀ u ∈ x.cells, u.oneCell' = true := fun u hu => by
  simp only [Ch.cells, List.mem_cons, List.not_mem_nil, or_false] at hu
  rcases hu with rfl | rfl | rfl <;> rfl
theorem chs_one (l : List Ch) : ∀ u ∈ chs l, u.oneCell' = true := fun u hu => by
  obtain ⟨c, _, h⟩ := List.mem_flatMap.1 hu
  exact Ch.ones c u h
theorem chs_append (l m : List Ch) : chs (l ++ m) = chs l ++ chs m := by unfold chs; rw [List.flatMap_append]
theorem chs_one1 (c : Ch) : chs [c] = c.cells := by simp [chs]
theorem chs_take : ∀ (l : List Ch) (i : Nat), (chs l).take (i * 3) = chs (l.take i)
  | [], i => by simp [chs]
  | _ :: _, 0 => rfl
  | c :: l, i + 1 => by
    rw [show (i + 1) * 3 = i * 3 + 3 from by omega]
    show (c.cells ++ chs l).take (i * 3 + 3) = c.cells ++ chs (l.take i)
    rw [← chs_take l i]
    rfl
theorem chs_drop : ∀ (l : List Ch) (i : Nat), (chs l).drop (i * 3) = chs (l.drop i)
  | [], i => by simp [chs]
  | _ :: _, 0 => rfl
  | c :: l, i + 1 => by
    rw [show (i + 1) * 3 = i * 3 + 3 from by omega]
    show (c.cells ++ chs l).drop (i * 3 + 3) = chs (l.drop i)
    rw [← chs_drop l i]
    rfl
/-- Changes as they lie somewhere, looked at. -/
def ChAt (w : World) (a : Option Addr) (l : List Ch) : Prop := ValsAt w a (chs l)
theorem ChAt.ext {w w' : World} {a : Option Addr} {l : List Ch} (h : ChAt w a l) (hx : Ext w w') : ChAt w' a l := ValsAt.ext h hx
/-- The i-th one. -/
theorem ChAt.at {w : World} {b off : Nat} {l : List Ch} (h : ChAt w (some ⟨b, off, none⟩) l) {i : Nat} (hi : i < l.length) :
    w.cell? ⟨b, off + i * 3, none⟩ = some (.string l[i].key) ∧ w.cell? ⟨b, off + i * 3 + 1, none⟩ = some (.string l[i].val) ∧ w.cell? ⟨b, off + i * 3 + 2, none⟩ = some (.bool l[i].gone) := by
  have g : ∀ c v, (l[i].cells)[c]? = some v → w.cell? ⟨b, off + (i * 3 + c), none⟩ = some v := fun c v hv => ValsAt.get h (flat_at (f := Ch.cells) (k := 3) (fun _ => rfl) hi c v hv)
  exact ⟨g 0 _ rfl, g 1 _ rfl, g 2 _ rfl⟩
theorem ChAt.some {w : World} {a : Option Addr} {l : List Ch} (h : ChAt w a l) (hl : 0 < l.length) : ∃ b off, a = some ⟨b, off, none⟩ := by
  rcases h with h | ⟨b, off, ha, _⟩
  · have : (chs l).length = 0 := by rw [h]; rfl
    rw [chs_length] at this; omega
  · exact ⟨b, off, ha⟩
theorem ChAt.of {w : World} {a : Option Addr} {l : List Ch} (h : l = [] ∨ ∃ b off, a = Option.some ⟨b, off, none⟩ ∧ ∀ i (h : i < l.length), w.cell? ⟨b, off + i * 3, none⟩ = Option.some (.string l[i].key) ∧ w.cell? ⟨b, off + i * 3 + 1, none⟩ = Option.some (.string l[i].val) ∧ w.cell? ⟨b, off + i * 3 + 2, none⟩ = Option.some (.bool l[i].gone)) : ChAt w a l := by
  rcases h with rfl | ⟨b, off, ha, hc⟩
  · exact .inl rfl
  · refine .inr ⟨b, off, ha, fun j hj => ?_⟩
    rw [chs_length] at hj
    have hi : j / 3 < l.length := by omega
    obtain ⟨h0, h1, h2⟩ := hc _ hi
    have e : (chs l)[j]? = (l[j / 3].cells)[j % 3]? := by
      have hm : j % 3 < 3 := Nat.mod_lt _ (by omega)
      have hlt : j % 3 < (l[j / 3].cells).length := hm
      have := flat_at (f := Ch.cells) (k := 3) (fun _ => rfl) hi (j % 3) _ (List.getElem?_eq_getElem hlt)
      rw [show j / 3 * 3 + j % 3 = j from by omega] at this
      rw [show chs l = List.flatMap Ch.cells l from rfl, this, List.getElem?_eq_getElem hlt]
    have hlt : j < (chs l).length := by rw [chs_length]; exact hj
    have e2 := (List.getElem?_eq_getElem hlt).symm.trans e
    have hj3 : j % 3 = 0 ∨ j % 3 = 1 ∨ j % 3 = 2 := by omega
    rcases hj3 with hj3 | hj3 | hj3 <;> rw [hj3] at e2 <;> simp only [Ch.cells, List.getElem?_cons_zero, List.getElem?_cons_succ, Option.some.injEq] at e2 <;> rw [e2]
    · rw [show off + j = off + j / 3 * 3 from by omega]; exact h0
    · rw [show off + j = off + j / 3 * 3 + 1 from by omega]; exact h1
    · rw [show off + j = off + j / 3 * 3 + 2 from by omega]; exact h2
/-- x put at place i of l. -/
def insAt (l : List Ch) (i : Nat) (x : Ch) : List Ch := l.take i ++ x :: l.drop i
theorem insAt_length (l : List Ch) (i : Nat) (x : Ch) (hi : i ≤ l.length) : (insAt l i x).length = l.length + 1 := by
  unfold insAt
  rw [List.length_append, List.length_cons, List.length_take, List.length_drop]; omega
theorem insAt_cells (l : List Ch) (i : Nat) (x : Ch) : chs (insAt l i x) = (chs l).take (i * 3) ++ (x.cells ++ (chs l).drop (i * 3)) := by
  unfold insAt
  rw [chs_append, chs_take, chs_drop]; rfl
theorem insAt_end (l : List Ch) (x : Ch) : chs (insAt l l.length x) = chs l ++ x.cells := by
  rw [insAt_cells, ← chs_length, List.take_length, List.drop_length, List.append_nil]

/-! Lists that rise by keys. -/
def Ups (l : List Ch) : Prop := l.Pairwise fun x y => slt x.key y.key = true
def low (l : List Ch) (k : ByteArray) : List Ch := l.filter fun x => slt x.key k
def high (l : List Ch) (k : ByteArray) : List Ch := l.filter fun x => slt k x.key
def putC (l : List Ch) (c : Ch) : List Ch := low l c.key ++ c :: high l c.key
def idxC (l : List Ch) (k : ByteArray) : Nat := (low l k).length
theorem idxC_le (l : List Ch) (k : ByteArray) : idxC l k ≤ l.length := List.length_filter_le _ _
theorem Ups.tail {x : Ch} {l : List Ch} (h : Ups (x :: l)) : Ups l := (List.pairwise_cons.1 h).2
theorem Ups.head {x : Ch} {l : List Ch} (h : Ups (x :: l)) : ∀ y ∈ l, slt x.key y.key = true := (List.pairwise_cons.1 h).1
theorem Ups.nil : Ups [] := List.Pairwise.nil
theorem high_all {l : List Ch} {k : ByteArray} (h : ∀ y ∈ l, slt k y.key = true) : high l k = l ∧ low l k = [] :=
  ⟨List.filter_eq_self.2 h, List.filter_eq_nil_iff.2 fun y hy => by rw [slt_asymm (h y hy)]; simp⟩
theorem Ups.low_take : ∀ {l : List Ch} (k : ByteArray), Ups l → low l k = l.take (idxC l k)
  | [], _, _ => rfl
  | x :: l, k, h => by
    cases hx : slt x.key k with
    | true =>
      have e : low (x :: l) k = x :: low l k := by simp [low, hx]
      unfold idxC
      rw [e, List.length_cons, List.take_succ_cons, show (low l k).length = idxC l k from rfl, ← Ups.low_take k h.tail]
    | false =>
      have e : low (x :: l) k = [] := by
        refine List.filter_eq_nil_iff.2 fun y hy => ?_
        rcases List.mem_cons.1 hy with rfl | hy
        · rw [hx]; simp
        · have h1 := h.head y hy
          cases h2 : slt y.key k with
          | false => simp
          | true => rw [slt_trans h1 h2] at hx; cases hx
      unfold idxC
      rw [e]; rfl
theorem Ups.at_low : ∀ {l : List Ch} (k : ByteArray), Ups l → ∀ {i : Nat} (hi : i < l.length), slt l[i].key k = decide (i < idxC l k)
  | [], _, _, _, hi => absurd hi (Nat.not_lt_zero _)
  | x :: l, k, h, i, hi => by
    cases hx : slt x.key k with
    | true =>
      have e : idxC (x :: l) k = idxC l k + 1 := by simp [idxC, low, hx]
      rw [e]
      cases i with
      | zero => simp [hx]
      | succ i =>
        have := Ups.at_low k h.tail (i := i) (by simpa using hi)
        simpa using this
    | false =>
      have e : idxC (x :: l) k = 0 := by
        have := Ups.low_take k h
        unfold idxC
        refine List.length_eq_zero_iff.2 (List.filter_eq_nil_iff.2 fun y hy => ?_)
        rcases List.mem_cons.1 hy with rfl | hy
        · rw [hx]; simp
        · have h1 := h.head y hy
          cases h2 : slt y.key k with
          | false => simp
          | true => rw [slt_trans h1 h2] at hx; cases hx
      rw [e]
      have h0 : ¬ i < 0 := by omega
      rw [decide_eq_false h0]
      cases i with
      | zero => exact hx
      | succ i =>
        have hi' : i < l.length := by simpa using hi
        show slt l[i].key k = false
        have h1 := h.head l[i] (List.getElem_mem hi')
        cases h2 : slt l[i].key k with
        | false => rfl
        | true => rw [slt_trans h1 h2] at hx; cases hx
theorem Ups.lt {l : List Ch} (h : Ups l) {i j : Nat} (hi : i < l.length) (hj : j < l.length) (hij : i < j) : slt l[i].key l[j].key = true := List.pairwise_iff_getElem.1 h i j hi hj hij
/-- It is there: what lies behind it is above it. -/
theorem Ups.high_drop : ∀ {l : List Ch} (k : ByteArray), Ups l → ∀ (hi : idxC l k < l.length), l[idxC l k].key = k → high l k = l.drop (idxC l k + 1)
  | [], _, _, hi, _ => absurd hi (Nat.not_lt_zero _)
  | x :: l, k, h, hi, he => by
    cases hx : slt x.key k with
    | true =>
      have e : idxC (x :: l) k = idxC l k + 1 := by simp [idxC, low, hx]
      have e2 : high (x :: l) k = high l k := by simp [high, slt_asymm hx]
      have hi' : idxC l k < l.length := by rw [e] at hi; simpa using hi
      have he' : l[idxC l k].key = k := by
        have : (x :: l)[idxC (x :: l) k]? = some l[idxC l k] := by rw [e]; simp [hi']
        rw [List.getElem?_eq_getElem hi] at this
        injection this with this
        rw [← this]; exact he
      rw [e, e2, Ups.high_drop k h.tail hi' he']; rfl
    | false =>
      have e : idxC (x :: l) k = 0 := by
        have := Ups.at_low k h (i := 0) (by simp)
        rw [show (x :: l)[0].key = x.key from rfl, hx] at this
        have := of_decide_eq_false this.symm
        omega
      have hk : x.key = k := by
        have : (x :: l)[idxC (x :: l) k]? = some x := by rw [e]; rfl
        rw [List.getElem?_eq_getElem hi] at this
        injection this with this
        rw [← this]; exact he
      subst hk
      have := (high_all (k := x.key) h.head).1
      rw [e]
      show high (x :: l) x.key = l
      rw [← this]
      simp only [high, List.filter_cons, slt_irrefl, List.filter_filter, Bool.and_self, Bool.false_eq_true, if_false]
/-- It isn't: what is not below it is above it. -/
theorem Ups.high_drop0 : ∀ {l : List Ch} (k : ByteArray), Ups l → (∀ (hi : idxC l k < l.length), l[idxC l k].key ≠ k) → high l k = l.drop (idxC l k)
  | [], _, _, _ => rfl
  | x :: l, k, h, he => by
    cases hx : slt x.key k with
    | true =>
      have e : idxC (x :: l) k = idxC l k + 1 := by simp [idxC, low, hx]
      have e2 : high (x :: l) k = high l k := by simp [high, slt_asymm hx]
      rw [e, e2, Ups.high_drop0 k h.tail fun hi' hk => ?_]; rfl
      have hi : idxC (x :: l) k < (x :: l).length := by rw [e]; simpa using hi'
      refine he hi ?_
      have : (x :: l)[idxC (x :: l) k]? = some l[idxC l k] := by rw [e]; simp [hi']
      rw [List.getElem?_eq_getElem hi] at this
      injection this with this
      rw [this]; exact hk
    | false =>
      have e : idxC (x :: l) k = 0 := by
        have := Ups.at_low k h (i := 0) (by simp)
        rw [show (x :: l)[0].key = x.key from rfl, hx] at this
        have := of_decide_eq_false this.symm
        omega
      have hi : idxC (x :: l) k < (x :: l).length := by rw [e]; simp
      have hne : x.key ≠ k := by
        have := he hi
        have h2 : (x :: l)[idxC (x :: l) k]? = some x := by rw [e]; rfl
        rw [List.getElem?_eq_getElem hi] at h2
        injection h2 with h2
        rwa [h2] at this
      have hk := slt_of_not hx hne
      rw [e, List.drop_zero]
      exact List.filter_eq_self.2 fun y hy => by
        rcases List.mem_cons.1 hy with rfl | hy
        · exact hk
        · exact slt_trans hk (h.head y hy)
theorem Ups.put_set {l : List Ch} {c : Ch} (h : Ups l) (hi : idxC l c.key < l.length) (he : l[idxC l c.key].key = c.key) : putC l c = l.set (idxC l c.key) c := by
  unfold putC
  rw [h.low_take, h.high_drop _ hi he, List.set_eq_take_append_cons_drop, if_pos hi]
theorem Ups.put_ins {l : List Ch} {c : Ch} (h : Ups l) (he : ∀ (hi : idxC l c.key < l.length), l[idxC l c.key].key ≠ c.key) : putC l c = insAt l (idxC l c.key) c := by
  unfold putC insAt
  rw [h.low_take, h.high_drop0 _ he]
theorem putC_length (l : List Ch) (c : Ch) : (putC l c).length ≤ l.length + 1 := by
  induction l with
  | nil => simp [putC, low, high]
  | cons x l ih =>
    unfold putC low high at *
    rw [List.filter_cons, List.filter_cons]
    cases h : slt x.key c.key <;> cases h2 : slt c.key x.key <;> simp only [List.length_append, List.length_cons, if_true, if_false, Bool.false_eq_true] at * <;> try omega
    rw [slt_asymm h] at h2; cases h2
theorem Ups.put {l : List Ch} (c : Ch) (h : Ups l) : Ups (putC l c) := by
  unfold putC Ups
  rw [List.pairwise_append]
  refine ⟨h.filter _, List.pairwise_cons.2 ⟨fun y hy => (List.mem_filter.1 hy).2, h.filter _⟩, fun a ha b hb => ?_⟩
  have ha := (List.mem_filter.1 ha).2
  rcases List.mem_cons.1 hb with rfl | hb
  · exact ha
  · exact slt_trans ha (List.mem_filter.1 hb).2
/-- The change of a key. -/
def findC (l : List Ch) (k : ByteArray) : Option Ch := l.find? fun x => decide (x.key = k)
theorem mem_put {l : List Ch} {c x : Ch} (h : x ∈ putC l c) : x = c ∨ x ∈ l := by
  rcases List.mem_append.1 h with h | h
  · exact .inr (List.mem_filter.1 h).1
  · rcases List.mem_cons.1 h with h | h
    · exact .inl h
    · exact .inr (List.mem_filter.1 h).1
theorem find_low (l : List Ch) (k : ByteArray) : findC (low l k) k = none := by
  refine List.find?_eq_none.2 fun x hx => ?_
  have := (List.mem_filter.1 hx).2
  simpa using slt_ne this
theorem find_high (l : List Ch) (k : ByteArray) : findC (high l k) k = none := by
  refine List.find?_eq_none.2 fun x hx => ?_
  have := (List.mem_filter.1 hx).2
  simpa using (slt_ne this).symm
theorem find_put (l : List Ch) (c : Ch) : findC (putC l c) c.key = some c := by
  unfold putC findC
  rw [List.find?_append]
  have := find_low l c.key
  unfold findC at this
  rw [this]
  simp
theorem find_filter {l : List Ch} {k : ByteArray} {p : Ch → Bool} (hp : ∀ x ∈ l, x.key = k → p x = true) : findC (l.filter p) k = findC l k := by
  unfold findC
  rw [List.find?_filter]
  induction l with
  | nil => rfl
  | cons x l ih =>
    have ih := ih fun y hy => hp y (List.mem_cons_of_mem _ hy)
    by_cases hk : x.key = k
    · simp [hp x (List.mem_cons_self ..) hk, hk]
    · simp [hk]
      simpa using ih
theorem find_put_other {l : List Ch} {c : Ch} {k : ByteArray} (hk : k ≠ c.key) : findC (putC l c) k = findC l k := by
  have h0 : decide (c.key = k) = false := by simpa using fun e => hk e.symm
  unfold putC
  have e : findC (low l c.key ++ c :: high l c.key) k = (findC (low l c.key) k).or (findC (high l c.key) k) := by
    unfold findC; rw [List.find?_append, List.find?_cons, h0]
  rw [e]
  rcases slt_total k c.key with h | h | h
  · rw [show findC (low l c.key) k = findC l k from find_filter fun x _ hx => by rw [hx]; exact h]
    have : findC (high l c.key) k = none := List.find?_eq_none.2 fun x hx => by
      have := (List.mem_filter.1 hx).2
      intro he
      rw [of_decide_eq_true he, slt_asymm h] at this; cases this
    rw [this]; cases findC l k <;> rfl
  · exact absurd h hk
  · have : findC (low l c.key) k = none := List.find?_eq_none.2 fun x hx => by
      have := (List.mem_filter.1 hx).2
      intro he
      rw [of_decide_eq_true he, slt_asymm h] at this; cases this
    rw [this, show findC (high l c.key) k = findC l k from find_filter fun x _ hx => by rw [hx]; exact h]; rfl
/-- Where it is, it is found there. -/
theorem Ups.find_yes {l : List Ch} {k : ByteArray} (h : Ups l) (hi : idxC l k < l.length) (he : l[idxC l k].key = k) : findC l k = some l[idxC l k] := by
  have e : l = l.take (idxC l k) ++ l[idxC l k] :: l.drop (idxC l k + 1) := by
    rw [List.getElem_cons_drop, List.take_append_drop]
  unfold findC
  conv => lhs; rw [e]
  rw [List.find?_append, ← h.low_take]
  have := find_low l k
  unfold findC at this
  rw [this, Option.none_or, List.find?_cons_of_pos (by simp [he])]
theorem Ups.find_no {l : List Ch} {k : ByteArray} (h : Ups l) (he : ∀ (hi : idxC l k < l.length), l[idxC l k].key ≠ k) : findC l k = none := by
  have e : l = low l k ++ high l k := by rw [h.low_take, h.high_drop0 _ he, List.take_append_drop]
  unfold findC
  rw [e, List.find?_append]
  have h1 := find_low l k
  have h2 := find_high l k
  unfold findC at h1 h2
  rw [h1, h2]; rfl
theorem Ups.find_mem {l : List Ch} (h : Ups l) {x : Ch} (hx : x ∈ l) : findC l x.key = some x := by
  induction l with
  | nil => cases hx
  | cons y l ih =>
    rcases List.mem_cons.1 hx with rfl | hx
    · simp [findC]
    · have := ih h.tail hx
      have hne : ¬ y.key = x.key := slt_ne (h.head x hx)
      unfold findC at *
      rw [List.find?_cons]
      simp only [hne, decide_false]
      exact this
theorem find_some_key {l : List Ch} {k : ByteArray} {x : Ch} (h : findC l k = some x) : x ∈ l ∧ x.key = k :=
  ⟨List.mem_of_find?_eq_some h, by simpa using List.find?_some h⟩
/-! Put twice. -/
theorem low_low {l : List Ch} {a b : ByteArray} (h : slt a b = true) : low (low l b) a = low l a ∧ low (low l a) b = low l a := by
  unfold low
  rw [List.filter_filter, List.filter_filter]
  constructor <;> refine List.filter_congr fun x _ => ?_
  · cases e : slt x.key a with
    | false => rfl
    | true => simp [slt_trans e h]
  · cases e : slt x.key a with
    | false => simp
    | true => simp [slt_trans e h]
theorem high_high {l : List Ch} {a b : ByteArray} (h : slt a b = true) : high (high l b) a = high l b ∧ high (high l a) b = high l b := by
  unfold high
  rw [List.filter_filter, List.filter_filter]
  constructor <;> refine List.filter_congr fun x _ => ?_
  · cases e : slt b x.key with
    | false => simp
    | true => simp [slt_trans h e]
  · cases e : slt b x.key with
    | false => rfl
    | true => simp [slt_trans h e]
theorem high_low {l : List Ch} {a b : ByteArray} : high (low l b) a = low (high l a) b := by
  unfold high low
  rw [List.filter_filter, List.filter_filter]
  exact List.filter_congr fun x _ => Bool.and_comm _ _
theorem low_high_nil {l : List Ch} {a b : ByteArray} (h : slt b a = false) : high (low l a) b = high (low l a) b := rfl
theorem low_of_high {l : List Ch} {a b : ByteArray} (h : slt a b = false) : low (high l a) b = [] := by
  unfold high low
  rw [List.filter_filter]
  refine List.filter_eq_nil_iff.2 fun x _ => ?_
  cases e : slt x.key b with
  | false => simp
  | true =>
    cases e2 : slt a x.key with
    | false => simp
    | true => rw [slt_trans e2 e] at h; cases h
theorem low_append (l m : List Ch) (k : ByteArray) : low (l ++ m) k = low l k ++ low m k := List.filter_append _ _
theorem high_append (l m : List Ch) (k : ByteArray) : high (l ++ m) k = high l k ++ high m k := List.filter_append _ _
theorem low_cons (c : Ch) (l : List Ch) (k : ByteArray) : low (c :: l) k = if slt c.key k then c :: low l k else low l k := List.filter_cons
theorem high_cons (c : Ch) (l : List Ch) (k : ByteArray) : high (c :: l) k = if slt k c.key then c :: high l k else high l k := List.filter_cons
theorem put_same (l : List Ch) (a b : Ch) (h : a.key = b.key) : putC (putC l a) b = putC l b := by
  have h0 := slt_irrefl b.key
  have e1 : low (low l b.key) b.key = low l b.key := by unfold low; rw [List.filter_filter]; exact List.filter_congr fun x _ => Bool.and_self _
  have e2 : high (high l b.key) b.key = high l b.key := by unfold high; rw [List.filter_filter]; exact List.filter_congr fun x _ => Bool.and_self _
  have e3 : low (high l b.key) b.key = [] := low_of_high h0
  have e4 : high (low l b.key) b.key = [] := by rw [high_low]; exact e3
  unfold putC
  rw [low_append, high_append, low_cons, high_cons, h, h0, e1, e2, e3, e4]
  simp
theorem put_comm_lt (l : List Ch) (a b : Ch) (h : slt a.key b.key = true) : putC (putC l a) b = putC (putC l b) a := by
  unfold putC
  rw [low_append, high_append, low_cons, high_cons, low_append, high_append, low_cons, high_cons, h, slt_asymm h, (low_low h).1, (low_low h).2, (high_high h).1, (high_high h).2]
  rw [show high (low l a.key) b.key = [] from by rw [high_low]; exact low_of_high (slt_asymm h), low_of_high (slt_asymm h), high_low (a := a.key) (b := b.key)]
  simp
theorem put_comm (l : List Ch) (a b : Ch) (h : a.key ≠ b.key) : putC (putC l a) b = putC (putC l b) a := by
  rcases slt_total a.key b.key with h1 | h1 | h1
  · exact put_comm_lt l a b h1
  · exact absurd h1 h
  · exact (put_comm_lt l b a h1).symm
end Go.Proofs.YtpdnlgopbnkdhaaDoor
namespace Go.Proofs.YtpdnlgopbnkdhaaDoor
open Go.RowKit

def ChangesAt (w : World) (a : Option Addr) (l : List Ch) : Prop :=
  l = [] ∨ ∃ b off, a = some ⟨b, off, none⟩ ∧ ∀ i (h : i < l.length), w.cell? ⟨b, off + i * 3, none⟩ = some (.string l[i].key) ∧ w.cell? ⟨b, off + i * 3 + 1, none⟩ = some (.string l[i].val) ∧ w.cell? ⟨b, off + i * 3 + 2, none⟩ = some (.bool l[i].gone)
theorem ChangesAt.ext {w w' : World} {a : Option Addr} {l : List Ch} (h : ChangesAt w a l) (hx : Ext w w') : ChangesAt w' a l :=
  h.imp id fun ⟨b, off, ha, hc⟩ => ⟨b, off, ha, fun i hi => ⟨hx.some (hc i hi).1, hx.some (hc i hi).2.1, hx.some (hc i hi).2.2⟩⟩
theorem Tryd.infoStr0 : (Tryd.prog.info? 9).map (fun i => (i.zero, i.size, i.bytes)) = some (some (.string ⟨#[]⟩), 1, 16) := by kernel_rfl
theorem one_new {v : Value} (h : v.oneCell' = true) : ∀ u ∈ [v], u.oneCell' = true := fun u hu => by rw [List.mem_singleton.1 hu]; exact h
theorem two_new {v v' : Value} (h : v.oneCell' = true) (h' : v'.oneCell' = true) : ∀ u ∈ [v, v'], u.oneCell' = true := fun u hu => by
  simp only [List.mem_cons, List.mem_nil_iff, or_false] at hu
  rcases hu with rfl | rfl
  · exact h
  · exact h'
theorem take_snoc' {α : Type} (l : List α) (k : Nat) (h : k < l.length) : l.take (k + 1) = l.take k ++ [l[k]] := List.take_succ_eq_append_getElem h
/-- All of the first k are so. -/
def Upto {α : Type} (p : α → Bool) (l : List α) (k : Nat) : Prop := (l.take k).all p = true
theorem Upto.zero {α : Type} {p : α → Bool} {l : List α} : Upto p l 0 := by simp [Upto]
theorem Upto.snoc {α : Type} {p : α → Bool} {l : List α} {k : Nat} (h : Upto p l k) (hk : k < l.length) (hp : p l[k] = true) : Upto p l (k + 1) := by
  unfold Upto at *; rw [take_snoc' l k hk, List.all_append, h]; simp [hp]
theorem Upto.all {α : Type} {p : α → Bool} {l : List α} {k : Nat} (h : Upto p l k) (hk : l.length ≤ k) : l.all p = true := by
  unfold Upto at h; rwa [List.take_of_length_le hk] at h
end Go.Proofs.YtpdnlgopbnkdhaaDoor
namespace Go.Proofs.YtpdnlgopbnkdhaaDoor
open Go.RowKit

/-- An act. -/
structure Ac where
  kind : ByteArray
  a : Int
  b : Int
  c : Int
  k : Int
  s : ByteArray
  t : ByteArray
  cp : Option Addr
  cc : Nat
  ch : List Ch
  sp : Option Addr
  sc : Nat
  spn : List Sp
def Ac.cells (x : Ac) : List Value := [.string x.kind, .int .i64 x.a, .int .i64 x.b, .int .i64 x.c, .int .u64 x.k, .string x.s, .string x.t, .slice x.cp x.ch.length x.cc, .slice x.sp x.spn.length x.sc]
def Ac.wf (w : World) (x : Ac) : Prop := ((Lit.int .i64 x.a).wf = true ∧ (Lit.int .i64 x.b).wf = true ∧ (Lit.int .i64 x.c).wf = true ∧ (Lit.int .u64 x.k).wf = true) ∧ ChangesAt w x.cp x.ch ∧ SpansAt w x.sp x.spn ∧ x.ch.length ≤ maxLen ∧ x.spn.length ≤ maxLen
structure AcAt (w : World) (g off : Nat) (x : Ac) : Prop where
  kind : w.cell? ⟨g, off, none⟩ = some (.string x.kind)
  a : w.cell? ⟨g, off + 1, none⟩ = some (.int .i64 x.a)
  b : w.cell? ⟨g, off + 2, none⟩ = some (.int .i64 x.b)
  c : w.cell? ⟨g, off + 3, none⟩ = some (.int .i64 x.c)
  k : w.cell? ⟨g, off + 4, none⟩ = some (.int .u64 x.k)
  s : w.cell? ⟨g, off + 5, none⟩ = some (.string x.s)
  t : w.cell? ⟨g, off + 6, none⟩ = some (.string x.t)
  ch : w.cell? ⟨g, off + 7, none⟩ = some (.slice x.cp x.ch.length x.cc)
  sp : w.cell? ⟨g, off + 8, none⟩ = some (.slice x.sp x.spn.length x.sc)
theorem AcAt.ext {w w' : World} {b off : Nat} {x : Ac} (h : AcAt w b off x) (hx : Ext w w') : AcAt w' b off x :=
  ⟨hx.some h.1, hx.some h.2, hx.some h.3, hx.some h.4, hx.some h.5, hx.some h.6, hx.some h.7, hx.some h.8, hx.some h.9⟩
def ActsAt (w : World) (a : Option Addr) (l : List Ac) : Prop :=
  (l = [] ∨ ∃ b off, a = some ⟨b, off, none⟩ ∧ ∀ i (h : i < l.length), AcAt w b (off + i * 9) l[i]) ∧ ∀ x ∈ l, x.wf w
theorem Ac.wf.ext {w w' : World} {x : Ac} (h : x.wf w) (hx : Ext w w') : x.wf w' := ⟨h.1, h.2.1.ext hx, h.2.2.1.ext hx, h.2.2.2⟩
theorem ActsAt.ext {w w' : World} {a : Option Addr} {l : List Ac} (h : ActsAt w a l) (hx : Ext w w') : ActsAt w' a l :=
  ⟨h.1.imp id fun ⟨b, off, ha, hc⟩ => ⟨b, off, ha, fun i hi => (hc i hi).ext hx⟩, fun x hm => (h.2 x hm).ext hx⟩

def lightChange (c : Ch) : Bool := decide (c.key.size ≤ 60) && decide (c.val.size ≤ 100)
def lightChanges (l : List Ch) (most : Nat) : Bool := decide (l.length ≤ most) && l.all lightChange
theorem lightChanges_many {l : List Ch} {most : Nat} (h : (most : Int) < (l.length : Int)) : lightChanges l most = false := by
  have : ¬ l.length ≤ most := by omega
  simp [lightChanges, this]
theorem lightChanges_eq {l : List Ch} {most : Nat} (h : (l.length : Int) ≤ most) : lightChanges l most = l.all lightChange := by
  have : l.length ≤ most := by omega
  simp [lightChanges, this]
theorem lightChange_no {s : Ch} (h : 60 < (s.key.size : Int) ∨ 100 < (s.val.size : Int)) : lightChange s = false := by
  simp [lightChange]; omega
theorem lightChange_yes {s : Ch} (h : (s.key.size : Int) ≤ 60 ∧ (s.val.size : Int) ≤ 100) : lightChange s = true := by
  simp [lightChange]; omega
set_option maxHeartbeats 400000 in
theorem lightChanges_any (a : Option Addr) (cap : Nat) (l : List Ch) (most : Nat) (w : World) (hl : l.length ≤ maxLen) (hm : most ≤ 1000) (hs : ChangesAt w a l) :
    Calls Tryd.prog 56 #[.slice a l.length cap, .int .i64 most] w fun e w' => e = .returned (.bool (lightChanges l most)) ∧ w' = w := by
  unfold maxLen at hl
  go_enter Tryd.func56, Tryd.ntmps56
  go_wp2
  · go_ret
    exact ⟨ret_bool (lightChanges_many (by omega)).symm, rfl⟩
  · have h50 : (l.length : Int) ≤ most := by omega
    go_loop [5] (fun i => ∃ k : Nat, k ≤ l.length ∧ i = .int .i64 k ∧ Upto lightChange l k) (fun i => l.length - (intOf i).toNat)
    case atStart => exact ⟨0, by omega, rfl, Upto.zero⟩
    case round =>
      obtain ⟨k, hk, rfl, HA⟩ := hrel
      by_cases hlt : k < l.length
      · rcases hs with rfl | ⟨b, off, rfl, hc⟩
        · simp at hlt
        obtain ⟨h1, h2, _⟩ := hc k hlt
        clear hc
        go_wp2
        · go_ret
          exact ⟨ret_bool ((lightChanges_eq h50).trans (all_false_at _ _ k hlt (lightChange_no (by assumption)))).symm, rfl⟩
        · exact ⟨⟨k + 1, by omega, by go_num, HA.snoc hlt (lightChange_yes (by assumption))⟩, by simp [intOf]; omega⟩
        · go_ret
          exact ⟨ret_bool ((lightChanges_eq h50).trans (all_false_at _ _ k hlt (lightChange_no (.inl (by assumption))))).symm, rfl⟩
      · go_wp2
        go_ret
        exact ⟨ret_bool ((lightChanges_eq h50).trans (HA.all (by omega))).symm, rfl⟩

def lightAct (x : Ac) : Bool := decide (x.s.size ≤ 120) && decide (x.t.size ≤ 100) && lightChanges x.ch 20 && lightSpans x.spn
def lightActs (l : List Ac) (most : Nat) : Bool := decide (l.length ≤ most) && l.all lightAct
theorem lightActs_many {l : List Ac} {most : Nat} (h : (most : Int) < (l.length : Int)) : lightActs l most = false := by
  have : ¬ l.length ≤ most := by omega
  simp [lightActs, this]
theorem lightActs_eq {l : List Ac} {most : Nat} (h : (l.length : Int) ≤ most) : lightActs l most = l.all lightAct := by
  have : l.length ≤ most := by omega
  simp [lightActs, this]
set_option maxHeartbeats 1000000 in
theorem lightActs_any (a : Option Addr) (cap : Nat) (l : List Ac) (most : Nat) (w : World) (hl : l.length ≤ maxLen) (hm : most ≤ 1000) (hs : ActsAt w a l) :
    Calls Tryd.prog 11 #[.slice a l.length cap, .int .i64 most] w fun e w' => e = .returned (.bool (lightActs l most)) ∧ w' = w := by
  unfold maxLen at hl
  go_enter Tryd.func11, Tryd.ntmps11
  go_wp2
  · go_ret
    exact ⟨ret_bool (lightActs_many (by omega)).symm, rfl⟩
  · have h50 : (l.length : Int) ≤ most := by omega
    go_loop [5] (fun i => ∃ k : Nat, k ≤ l.length ∧ i = .int .i64 k ∧ Upto lightAct l k) (fun i => l.length - (intOf i).toNat)
    case atStart => exact ⟨0, by omega, rfl, Upto.zero⟩
    case round =>
      obtain ⟨k, hk, rfl, HA⟩ := hrel
      by_cases hlt : k < l.length
      · obtain ⟨hs1, hs2⟩ := hs
        rcases hs1 with rfl | ⟨b, off, rfl, hc⟩
        · simp at hlt
        have hk := hc k hlt
        obtain ⟨_, hc1, hc2, hc3, hc4⟩ := hs2 _ (List.getElem_mem hlt)
        have h1 := hk.s
        have h2 := hk.t
        have h3 := hk.ch
        have h4 := hk.sp
        clear hc hk
        have no : lightAct l[k] = false → lightActs l most = false := fun h => (lightActs_eq h50).trans (all_false_at _ _ k hlt h)
        by_cases e1 : (l[k].s.size : Int) ≤ 120
        · by_cases e2 : (l[k].t.size : Int) ≤ 100
          · cases e3 : lightChanges l[k].ch 20 with
            | true =>
              cases e4 : lightSpans l[k].spn with
              | true =>
                go_wp2_with (first
                  | (go_at_call 56; refine (lightChanges_any _ _ _ 20 _ hc3 (by omega) hc1).mono ?_; rintro e w' ⟨rfl, rfl⟩; dsimp only; rw [e3])
                  | (go_at_call 52; refine (lightSpans_any _ _ _ _ hc4 hc2).mono ?_; rintro e w' ⟨rfl, rfl⟩; dsimp only; rw [e4]))
                refine ⟨⟨k + 1, by omega, by go_num, HA.snoc hlt ?_⟩, by simp [intOf]; omega⟩
                simp [lightAct, e3, e4]; omega
              | false =>
                go_wp2_with (first
                  | (go_at_call 56; refine (lightChanges_any _ _ _ 20 _ hc3 (by omega) hc1).mono ?_; rintro e w' ⟨rfl, rfl⟩; dsimp only; rw [e3])
                  | (go_at_call 52; refine (lightSpans_any _ _ _ _ hc4 hc2).mono ?_; rintro e w' ⟨rfl, rfl⟩; dsimp only; rw [e4]))
                go_ret
                exact ⟨ret_bool (no (by simp [lightAct, e4])).symm, rfl⟩
            | false =>
              go_wp2_with (first
                | (go_at_call 56; refine (lightChanges_any _ _ _ 20 _ hc3 (by omega) hc1).mono ?_; rintro e w' ⟨rfl, rfl⟩; dsimp only; rw [e3]))
              go_ret
              exact ⟨ret_bool (no (by simp [lightAct, e3])).symm, rfl⟩
          · go_wp2
            go_ret
            exact ⟨ret_bool (no (by have : ¬ l[k].t.size ≤ 100 := by omega
                                    simp [lightAct, this])).symm, rfl⟩
        · go_wp2
          go_ret
          exact ⟨ret_bool (no (by have : ¬ l[k].s.size ≤ 120 := by omega
                                  simp [lightAct, this])).symm, rfl⟩
      · go_wp2
        go_ret
        exact ⟨ret_bool ((lightActs_eq h50).trans (HA.all (by omega))).symm, rfl⟩
end Go.Proofs.YtpdnlgopbnkdhaaDoor
namespace Go.Proofs.YtpdnlgopbnkdhaaDoor
open Go.ChangeShapes Go.WideShapes Go.ChangeAt Go.RowKit Go.Joins
open Go.ChangeMaps (open_string)
section
variable {H : Type} {enc : TypeId × Value → H} {w : World} {base : Nat} {spare : Nat → Bool} {held : Bool}
set_option maxRecDepth 100000 in
theorem change_row {n : Nat} {r : List Value} {y : DataW H × List MemPlace} (h : DataW.trod enc Tryd.prog w base spare held n 74 r = some y) : ∃ s : Ch, r = [.string s.key, .string s.val, .bool s.gone] := by
  obtain ⟨hl, hf⟩ := struct_row Tryd.underlying74 (by kernel_rfl) h
  match r, hl with
  | [c0, c1, c2], _ =>
    obtain ⟨_, _, h0⟩ := hf 0 _ (by simp) rfl
    obtain ⟨_, _, h1⟩ := hf 1 _ (by simp) rfl
    obtain ⟨_, _, h2⟩ := hf 2 _ (by simp) rfl
    obtain ⟨x0, e0, _, _⟩ := DataW.trod_string Tryd.underlying9 h0
    obtain ⟨x1, e1, _, _⟩ := DataW.trod_string Tryd.underlying9 h1
    obtain ⟨x2, e2, _⟩ := DataW.trod_bool Tryd.underlying4 h2
    simp at e0 e1 e2
    exact ⟨⟨x0, x1, x2⟩, by rw [e0, e1, e2]⟩
theorem changes_of {n : Nat} {cs : List Value} {y : DataW H × List MemPlace} (h : DataW.trod enc Tryd.prog w base spare held n 44 cs = some y) :
    ∃ a cap, ∃ l : List Ch, cs = [.slice a l.length cap] ∧ l.length ≤ maxLen ∧ ChangesAt w a l := by
  obtain ⟨a, cap, rows, rfl, h1, h2, h3, h4⟩ := slice_rows (sz := 3) Tryd.underlying44 (by kernel_rfl) (by omega) h
  obtain ⟨l, rfl⟩ := map_of (f := fun s : Ch => [Value.string s.key, Value.string s.val, Value.bool s.gone]) fun r hr => by obtain ⟨_, n, y, hy⟩ := h4 r hr; exact change_row hy
  refine ⟨a, cap, l, by simp, by simp at h1; omega, h3.imp (by simp) fun ⟨b, off, ha, hc⟩ => ⟨b, off, ha, fun i hi => ?_⟩⟩
  have g0 := hc i (by simpa using hi) 0 (by simp)
  have g1 := hc i (by simpa using hi) 1 (by simp)
  have g2 := hc i (by simpa using hi) 2 (by simp)
  simp at g0 g1 g2
  exact ⟨g0, g1, g2⟩
set_option maxRecDepth 100000 in
theorem act_row {n : Nat} {r : List Value} {y : DataW H × List MemPlace} (h : DataW.trod enc Tryd.prog w base spare held n 47 r = some y) : ∃ x : Ac, r = x.cells ∧ x.wf w := by
  obtain ⟨hl, hf⟩ := struct_row Tryd.underlying47 (by kernel_rfl) h
  match r, hl with
  | [c0, c1, c2, c3, c4, c5, c6, c7, c8], _ =>
    obtain ⟨_, _, h0⟩ := hf 0 _ (by simp) rfl
    obtain ⟨_, _, h1⟩ := hf 1 _ (by simp) rfl
    obtain ⟨_, _, h2⟩ := hf 2 _ (by simp) rfl
    obtain ⟨_, _, h3⟩ := hf 3 _ (by simp) rfl
    obtain ⟨_, _, h4⟩ := hf 4 _ (by simp) rfl
    obtain ⟨_, _, h5⟩ := hf 5 _ (by simp) rfl
    obtain ⟨_, _, h6⟩ := hf 6 _ (by simp) rfl
    obtain ⟨_, _, h7⟩ := hf 7 _ (by simp) rfl
    obtain ⟨_, _, h8⟩ := hf 8 _ (by simp) rfl
    obtain ⟨x0, e0, _, _⟩ := DataW.trod_string Tryd.underlying9 h0
    obtain ⟨x1, e1, _, w1⟩ := DataW.trod_int Tryd.underlying3 h1
    obtain ⟨x2, e2, _, w2⟩ := DataW.trod_int Tryd.underlying3 h2
    obtain ⟨x3, e3, _, w3⟩ := DataW.trod_int Tryd.underlying3 h3
    obtain ⟨x4, e4, _, w4⟩ := DataW.trod_int Tryd.underlying43 h4
    obtain ⟨x5, e5, _, _⟩ := DataW.trod_string Tryd.underlying9 h5
    obtain ⟨x6, e6, _, _⟩ := DataW.trod_string Tryd.underlying9 h6
    obtain ⟨cp, cc, ch, e7, l7, s7⟩ := changes_of h7
    obtain ⟨sp, sc, sl, e8, l8, s8⟩ := spans_of h8
    simp at e0 e1 e2 e3 e4 e5 e6 e7 e8
    exact ⟨⟨x0, x1, x2, x3, x4, x5, x6, cp, cc, ch, sp, sc, sl⟩, by rw [e0, e1, e2, e3, e4, e5, e6, e7, e8]; rfl, ⟨w1, w2, w3, w4⟩, s7, s8, l7, l8⟩
set_option maxRecDepth 100000 in
theorem acts_arg {b0 : Nat} {v : Value} {d : DataW H} {p : List MemPlace} (hv : Value.okWide Tryd.prog w .any b0 23 v) (h : DataW.Trod enc Tryd.prog w base spare held 23 v d p) :
    ∃ a cap, ∃ l : List Ac, v = .slice a l.length cap ∧ l.length ≤ maxLen ∧ ActsAt w a l := by
  obtain ⟨a0, len, cap0, rfl⟩ := okWide_slice Tryd.underlying23 hv
  obtain ⟨n, hf⟩ := h
  obtain ⟨a, cap, rows, hcs, h1, h2, h3, h4⟩ := slice_rows (sz := 9) Tryd.underlying23 (by kernel_rfl) (by omega) hf
  simp only [Value.cells, List.cons.injEq, Value.slice.injEq, and_true] at hcs
  obtain ⟨rfl, rfl, rfl⟩ := hcs
  obtain ⟨l, hl, hall⟩ : ∃ l : List Ac, rows = l.map Ac.cells ∧ ∀ x ∈ l, x.wf w := by
    have : ∀ rows : List (List Value), (∀ r ∈ rows, ∃ x : Ac, r = x.cells ∧ x.wf w) → ∃ l : List Ac, rows = l.map Ac.cells ∧ ∀ x ∈ l, x.wf w := by
      intro rows
      induction rows with
      | nil => exact fun _ => ⟨[], rfl, fun x hx => by cases hx⟩
      | cons r rows ih =>
        intro h
        obtain ⟨x, hx, hw⟩ := h r (List.mem_cons_self ..)
        obtain ⟨l, hl, hlw⟩ := ih fun r hr => h r (List.mem_cons_of_mem _ hr)
        exact ⟨x :: l, by rw [hx, hl]; rfl, fun y hy => by
          rcases List.mem_cons.1 hy with rfl | hy
          · exact hw
          · exact hlw y hy⟩
    exact this rows fun r hr => by obtain ⟨_, n, y, hy⟩ := h4 r hr; exact act_row hy
  subst hl
  refine ⟨a0, cap0, l, by simp, by simp at h1; omega, h3.imp (by simp) fun ⟨b, off, ha, hc⟩ => ⟨b, off, ha, fun i hi => ?_⟩, hall⟩
  have g := fun k hk => hc i (by simpa using hi) k (by simpa [Ac.cells] using hk)
  simp only [List.getElem_map] at g
  exact ⟨g 0 (by simp), g 1 (by simp), g 2 (by simp), g 3 (by simp), g 4 (by simp), g 5 (by simp), g 6 (by simp), g 7 (by simp), g 8 (by simp)⟩
set_option maxRecDepth 100000 in
theorem int_arg {b0 : Nat} {v : Value} {d : DataW H} {p : List MemPlace} (hv : Value.okWide Tryd.prog w .any b0 3 v) (h : DataW.Trod enc Tryd.prog w base spare held 3 v d p) :
    ∃ n : Int, v = .int .i64 n ∧ (Lit.int .i64 n).wf = true := by
  obtain ⟨n, rfl⟩ := okWide_int Tryd.underlying3 hv
  obtain ⟨_, hf⟩ := h
  obtain ⟨m, e, _, hw⟩ := DataW.trod_int Tryd.underlying3 hf
  simp [Value.cells] at e
  exact ⟨n, rfl, by rw [e]; exact hw⟩
set_option maxRecDepth 100000 in
theorem u64_arg {b0 : Nat} {v : Value} {d : DataW H} {p : List MemPlace} (hv : Value.okWide Tryd.prog w .any b0 43 v) (h : DataW.Trod enc Tryd.prog w base spare held 43 v d p) :
    ∃ n : Int, v = .int .u64 n ∧ 0 ≤ n ∧ n < 18446744073709551616 := by
  obtain ⟨n, rfl⟩ := okWide_int Tryd.underlying43 hv
  obtain ⟨_, hf⟩ := h
  obtain ⟨m, e, _, hw⟩ := DataW.trod_int Tryd.underlying43 hf
  simp [Value.cells] at e
  subst e
  simp only [Lit.wf, Bool.and_eq_true, decide_eq_true_eq] at hw
  exact ⟨n, rfl, hw.1, Int.lt_of_le_of_lt hw.2 (by decide)⟩
end
end Go.Proofs.YtpdnlgopbnkdhaaDoor
namespace Go.Proofs.YtpdnlgopbnkdhaaDoor
open Go.ChangeShapes Go.RowKit Go.WideShapes
open Go.ChangeMaps (open_string)
section
variable {H : Type} {enc : TypeId × Value → H} {P : Program} {w : World} {base : Nat} {spare : Nat → Bool} {held : Bool}
theorem trodAll_five {t0 t1 t2 t3 t4 : TypeId} {args : Array Value} {ds : List (DataW H)} {ps : List MemPlace} (h : DataW.TrodAll enc P w base spare held [t0, t1, t2, t3, t4] args.toList ds ps) :
    ∃ v0 v1 v2 v3 v4 d0 d1 d2 d3 d4 p0 p1 p2 p3 p4, args = #[v0, v1, v2, v3, v4] ∧ ds = [d0, d1, d2, d3, d4] ∧ ps = p0 ++ (p1 ++ (p2 ++ (p3 ++ p4))) ∧
      DataW.Trod enc P w base spare held t0 v0 d0 p0 ∧ DataW.Trod enc P w base spare held t1 v1 d1 p1 ∧ DataW.Trod enc P w base spare held t2 v2 d2 p2 ∧ DataW.Trod enc P w base spare held t3 v3 d3 p3 ∧ DataW.Trod enc P w base spare held t4 v4 d4 p4 := by
  obtain ⟨v0, w0, d0, e0, p0, q0, ha, rfl, rfl, h0, r0⟩ := trodAll_cons h
  obtain ⟨v1, w1, d1, e1, p1, q1, rfl, rfl, rfl, h1, r1⟩ := trodAll_cons r0
  obtain ⟨v2, w2, d2, e2, p2, q2, rfl, rfl, rfl, h2, r2⟩ := trodAll_cons r1
  obtain ⟨v3, w3, d3, e3, p3, q3, rfl, rfl, rfl, h3, r3⟩ := trodAll_cons r2
  obtain ⟨v4, w4, d4, e4, p4, q4, rfl, rfl, rfl, h4, r4⟩ := trodAll_cons r3
  obtain ⟨rfl, rfl, rfl⟩ := trodAll_nil r4
  exact ⟨v0, v1, v2, v3, v4, d0, d1, d2, d3, d4, p0, p1, p2, p3, p4, by cases args; simp_all, rfl, by simp, h0, h1, h2, h3, h4⟩
end
section
variable {H : Type} {enc : TypeId × Value → H} {w : World} {base : Nat} {spare : Nat → Bool} {held : Bool}
theorem text_row {n : Nat} {r : List Value} {y : DataW H × List MemPlace} (h : DataW.trod enc Tryd.prog w base spare held n 9 r = some y) : ∃ s : ByteArray, r = [.string s] := by
  obtain ⟨s, e, _, _⟩ := DataW.trod_string Tryd.underlying9 h
  exact ⟨s, e⟩
set_option maxRecDepth 100000 in
theorem texts_of {n : Nat} {cs : List Value} {y : DataW H × List MemPlace} (h : DataW.trod enc Tryd.prog w base spare held n 22 cs = some y) :
    ∃ a cap, ∃ l : List ByteArray, cs = [.slice a l.length cap] ∧ l.length ≤ maxLen ∧ ValsAt w a (l.map .string) := by
  obtain ⟨a, cap, rows, rfl, h1, h2, h3, h4⟩ := slice_rows (sz := 1) Tryd.underlying22 (by kernel_rfl) (by omega) h
  obtain ⟨l, rfl⟩ := map_of (f := fun s : ByteArray => [Value.string s]) fun r hr => by obtain ⟨_, n, y, hy⟩ := h4 r hr; exact text_row hy
  refine ⟨a, cap, l, by simp, by simp at h1; omega, h3.imp (by simp) fun ⟨b, off, ha, hc⟩ => ⟨b, off, ha, fun i hi => ?_⟩⟩
  have g0 := hc i (by simpa using hi) 0 (by simp)
  simp at g0 ⊢
  exact g0
set_option maxRecDepth 100000 in
theorem texts_arg {b0 : Nat} {v : Value} {d : DataW H} {p : List MemPlace} (hv : Value.okWide Tryd.prog w .any b0 22 v) (h : DataW.Trod enc Tryd.prog w base spare held 22 v d p) :
    ∃ a cap, ∃ l : List ByteArray, v = .slice a l.length cap ∧ l.length ≤ maxLen ∧ ValsAt w a (l.map .string) := by
  obtain ⟨a0, len, cap, rfl⟩ := okWide_slice Tryd.underlying22 hv
  obtain ⟨n, hf⟩ := h
  obtain ⟨a, cap', l, hcs, h1, h2⟩ := texts_of hf
  simp [Value.cells] at hcs
  obtain ⟨rfl, rfl, rfl⟩ := hcs
  exact ⟨_, _, l, rfl, h1, h2⟩
end
end Go.Proofs.YtpdnlgopbnkdhaaDoor
namespace Go.Proofs.YtpdnlgopbnkdhaaDoor
theorem index_hit (c : UInt8) (b : List UInt8) : ∀ a : List UInt8, c ∉ a → Lib.index (a ++ c :: b) [c] = a.length
  | [], _ => by simp [Lib.index, List.isPrefixOf]
  | x :: a, h => by
    have hx : ¬ c = x := fun e => h (e ▸ List.mem_cons_self ..)
    have ih := index_hit c b a (fun hm => h (List.mem_cons_of_mem _ hm))
    have e : (List.isPrefixOf [c] (x :: (a ++ c :: b))) = false := by simp [List.isPrefixOf, hx]
    show Lib.index (x :: (a ++ c :: b)) [c] = _
    unfold Lib.index
    rw [e, ih]
    have : ((a.length : Int) == -1) = false := by rw [beq_eq_false_iff_ne]; omega
    simp [this]
theorem index_miss (c : UInt8) : ∀ a : List UInt8, c ∉ a → Lib.index a [c] = -1
  | [], _ => by simp [Lib.index]
  | x :: a, h => by
    have hx : ¬ c = x := fun e => h (e ▸ List.mem_cons_self ..)
    have ih := index_miss c a (fun hm => h (List.mem_cons_of_mem _ hm))
    have e : (List.isPrefixOf [c] (x :: a)) = false := by simp [List.isPrefixOf, hx]
    unfold Lib.index
    rw [e, ih]
    rfl
theorem cut_hit (c : UInt8) (a b : List UInt8) (h : c ∉ a) : Lib.cut (a ++ c :: b) [c] = (a, b, true) := by
  unfold Lib.cut
  rw [index_hit c b a h, if_pos (by omega)]
  simp
theorem cut_miss (c : UInt8) (a : List UInt8) (h : c ∉ a) : Lib.cut a [c] = (a, [], false) := by
  unfold Lib.cut
  rw [index_miss c a h, if_neg (by omega)]
/-- What a cut tells. -/
theorem cut_spec (c : UInt8) (s : List UInt8) : (∃ a b, s = a ++ c :: b ∧ c ∉ a ∧ Lib.cut s [c] = (a, b, true)) ∨ (c ∉ s ∧ Lib.cut s [c] = (s, [], false)) := by
  by_cases h : c ∈ s
  · obtain ⟨a, b, rfl, ha⟩ := List.eq_append_cons_of_mem h
    exact .inl ⟨a, b, rfl, ha, cut_hit c a b ha⟩
  · exact .inr ⟨h, cut_miss c s h⟩
def d8 (n : Nat) : UInt8 := UInt8.ofNat (48 + n)
theorem d8_toNat (n : Nat) (h : n < 10) : (d8 n).toNat = 48 + n := by
  unfold d8; rw [UInt8.toNat_ofNat_of_lt' (by show 48 + n < 256; omega)]
/-- Six digits. -/
def esix (n : Nat) : List UInt8 := [d8 (n / 100000 % 10), d8 (n / 10000 % 10), d8 (n / 1000 % 10), d8 (n / 100 % 10), d8 (n / 10 % 10), d8 (n % 10)]
theorem dec_step (u : Nat) (h : ¬ u < 10) : Lib.decDigits u = Lib.decDigits (u / 10) ++ [d8 (u % 10)] := by
  rw [Lib.decDigits, dif_neg h]; rfl
theorem dec_one (u : Nat) (h : u < 10) : Lib.decDigits u = [d8 u] := by rw [Lib.decDigits, dif_pos h]; rfl
theorem dec7 (m : Nat) (h : m < 1000000) : Lib.decDigits (1000000 + m) = 49 :: esix m := by
  rw [dec_step _ (by omega), dec_step ((1000000 + m) / 10) (by omega), dec_step ((1000000 + m) / 10 / 10) (by omega), dec_step ((1000000 + m) / 10 / 10 / 10) (by omega), dec_step ((1000000 + m) / 10 / 10 / 10 / 10) (by omega), dec_step ((1000000 + m) / 10 / 10 / 10 / 10 / 10) (by omega)]
  have e0 : (1000000 + m) / 10 / 10 / 10 / 10 / 10 / 10 = 1 := by omega
  have e1 : (1000000 + m) / 10 / 10 / 10 / 10 / 10 % 10 = m / 100000 % 10 := by omega
  have e2 : (1000000 + m) / 10 / 10 / 10 / 10 % 10 = m / 10000 % 10 := by omega
  have e3 : (1000000 + m) / 10 / 10 / 10 % 10 = m / 1000 % 10 := by omega
  have e4 : (1000000 + m) / 10 / 10 % 10 = m / 100 % 10 := by omega
  have e5 : (1000000 + m) / 10 % 10 = m / 10 % 10 := by omega
  have e6 : (1000000 + m) % 10 = m % 10 := by omega
  rw [e0, e1, e2, e3, e4, e5, e6, dec_one 1 (by omega)]
  rfl
theorem parse_digit (acc d : Nat) (r : List UInt8) (h : d < 10) (ha : acc < 100000000000000000) : Lib.parseUint10 acc (d8 d :: r) = Lib.parseUint10 (acc * 10 + d) r := by
  conv => lhs; unfold Lib.parseUint10
  rw [d8_toNat d h, if_pos (by omega), if_neg (by omega), show 48 + d - 48 = d from by omega, if_neg (by omega)]
theorem atoi_six (m : Nat) (h : m < 1000000) : Lib.atoiAll (esix m) = .ok (m : Int) := by
  have h0 : (d8 (m / 100000 % 10)).toNat = 48 + m / 100000 % 10 := d8_toNat _ (by omega)
  unfold Lib.atoiAll esix
  dsimp only
  rw [if_neg (by rw [h0]; omega)]
  unfold Lib.parseMag
  rw [if_neg (by simp), parse_digit _ _ _ (by omega) (by omega), parse_digit _ _ _ (by omega) (by omega), parse_digit _ _ _ (by omega) (by omega), parse_digit _ _ _ (by omega) (by omega), parse_digit _ _ _ (by omega) (by omega), parse_digit _ _ _ (by omega) (by omega)]
  rw [show (((((0 * 10 + m / 100000 % 10) * 10 + m / 10000 % 10) * 10 + m / 1000 % 10) * 10 + m / 100 % 10) * 10 + m / 10 % 10) * 10 + m % 10 = m from by omega]
  simp only [Lib.parseUint10]
  rw [if_neg (by omega), if_neg (by rw [h0]; omega), if_neg (by rw [h0]; omega)]
end Go.Proofs.YtpdnlgopbnkdhaaDoor
namespace Go.Proofs.YtpdnlgopbnkdhaaDoor
open Go.RowKit
def six (n : Nat) : ByteArray := ⟨(esix (n % 1000000)).toArray⟩
theorem itoa_slice (m : Nat) (h : m < 1000000) : (itoaB (1000000 + m)).extract 1 (itoaB (1000000 + m)).size = ⟨(esix m).toArray⟩ ∧ (itoaB (1000000 + m)).size = 7 := by
  have e : itoaB (1000000 + m) = ⟨(49 :: esix m).toArray⟩ := by
    unfold itoaB
    rw [show ((1000000 : Int) + (m : Int)) = ((1000000 + m : Nat) : Int) from rfl, Lib.itoa_nonneg, dec7 m h]
  rw [e]
  refine ⟨?_, rfl⟩
  apply ByteArray.ext
  rfl
set_option maxHeartbeats 1000000 in
set_option maxRecDepth 100000 in
theorem six_any (n : Nat) (w : World) (h : LibOk w) (hn : n ≤ 9223372036854775807) : Calls Tryd.prog 87 #[.int .i64 n] w fun e w' => e = .returned (.string (six n)) ∧ Ext w w' := by
  have hm : n % 1000000 < 1000000 := Nat.mod_lt _ (by decide)
  obtain ⟨e1, e2⟩ := itoa_slice (n % 1000000) hm
  have hi : ∀ w, LibOk w → Calls Tryd.prog 103 #[.int .i64 (1000000 + (n : Int) % 1000000)] w fun e w' => e = .returned (.string (itoaB (1000000 + ((n % 1000000 : Nat) : Int)))) ∧ Ext w w' := fun w h => by
    have := itoa_any (1000000 + ((n % 1000000 : Nat) : Int)) w h (by omega) (by omega)
    rwa [Int.natCast_emod] at this ⊢
  generalize itoaB (1000000 + ((n % 1000000 : Nat) : Int)) = x at *
  go_enter Tryd.func87, Tryd.ntmps87
  go_wp2_with (go_at_call 103; refine (hi _ h).mono ?_; rintro e w' ⟨rfl, hx⟩; dsimp only)
  rw [e2] at e1
  go_ret
  exact ⟨by rw [e1]; rfl, hx⟩
theorem six_size (n : Nat) : (six n).size = 6 := rfl
def tB : ByteArray := ⟨#[116]⟩
def qB : ByteArray := ⟨#[113]⟩
def mB : ByteArray := ⟨#[109]⟩
def slash : ByteArray := ⟨#[47]⟩
theorem app_data (a b : ByteArray) : (a ++ b).data.toList = a.data.toList ++ b.data.toList := by
  rw [ByteArray.data_append, Array.toList_append]
theorem ba_ext {a b : ByteArray} (h : a.data.toList = b.data.toList) : a = b := ByteArray.ext (Array.ext' h)
theorem cutB_hit (a b : ByteArray) (h : (47 : UInt8) ∉ a.data.toList) : cutB (a ++ slash ++ b) slash = (a, b, true) := by
  unfold cutB
  have e : (a ++ slash ++ b).data.toList = a.data.toList ++ 47 :: b.data.toList := by
    rw [app_data, app_data, List.append_assoc]; rfl
  rw [e, show slash.data.toList = [47] from rfl, cut_hit 47 _ _ h]
theorem cutB_spec (s : ByteArray) : (∃ a b : ByteArray, s = a ++ slash ++ b ∧ (47 : UInt8) ∉ a.data.toList ∧ cutB s slash = (a, b, true)) ∨ cutB s slash = (s, ⟨#[]⟩, false) := by
  rcases cut_spec 47 s.data.toList with ⟨a, b, h1, h2, h3⟩ | ⟨h1, h2⟩
  · refine .inl ⟨⟨a.toArray⟩, ⟨b.toArray⟩, ?_, by simpa using h2, ?_⟩
    · apply ba_ext
      rw [app_data, app_data, h1, List.append_assoc]; rfl
    · unfold cutB
      rw [show slash.data.toList = [47] from rfl, h3]
  · refine .inr ?_
    unfold cutB
    rw [show slash.data.toList = [47] from rfl, h2]
/-- May it be a row's key? -/
def KeyOk (k : ByteArray) : Prop := (∃ a, NameOk a ∧ (k = tB ++ slash ++ a ∨ k = qB ++ slash ++ a)) ∨ ∃ q n, NameOk q ∧ n < 1000000 ∧ k = mB ++ slash ++ (q ++ slash ++ six n)
theorem name_noslash {a : ByteArray} (h : NameOk a) : (47 : UInt8) ∉ a.data.toList := fun hm => by
  obtain ⟨i, hi, he⟩ := List.getElem_of_mem hm
  have := h.2.2 i (by simpa using hi)
  have e : a[i]'(by simpa using hi) = 47 := by
    rw [← he]; rfl
  rw [e] at this
  unfold OkAt at this
  rw [show UInt8.toNat 47 = 47 from rfl] at this
  omega
theorem KeyOk_cut (k : ByteArray) : KeyOk k ↔ (cutB k slash).2.2 = true ∧ ((((cutB k slash).1 = tB ∨ (cutB k slash).1 = qB) ∧ NameOk (cutB k slash).2.1) ∨
    ((cutB k slash).1 = mB ∧ (cutB (cutB k slash).2.1 slash).2.2 = true ∧ NameOk (cutB (cutB k slash).2.1 slash).1 ∧ ∃ n, n < 1000000 ∧ (cutB (cutB k slash).2.1 slash).2.1 = six n)) := by
  constructor
  · rintro (⟨a, ha, rfl | rfl⟩ | ⟨q, n, hq, hn, rfl⟩)
    · rw [cutB_hit tB a (by decide)]; exact ⟨rfl, .inl ⟨.inl rfl, ha⟩⟩
    · rw [cutB_hit qB a (by decide)]; exact ⟨rfl, .inl ⟨.inr rfl, ha⟩⟩
    · rw [cutB_hit mB _ (by decide)]
      dsimp only
      rw [cutB_hit q _ (name_noslash hq)]
      exact ⟨rfl, .inr ⟨rfl, rfl, hq, n, hn, rfl⟩⟩
  · rintro ⟨h1, h2⟩
    rcases cutB_spec k with ⟨a, b, hk, ha, hc⟩ | hc
    · rw [hc] at h1 h2
      dsimp only at h1 h2
      rcases h2 with ⟨rfl | rfl, hb⟩ | ⟨rfl, h3, h4, n, hn, h5⟩
      · exact .inl ⟨b, hb, .inl hk⟩
      · exact .inl ⟨b, hb, .inr hk⟩
      · rcases cutB_spec b with ⟨q, m, hb, hq, hc2⟩ | hc2
        · rw [hc2] at h3 h4 h5
          dsimp only at h3 h4 h5
          subst h5
          exact .inr ⟨q, n, h4, hn, by rw [hk, hb]⟩
        · rw [hc2] at h3; cases h3
    · rw [hc] at h1; cases h1
open Classical in
noncomputable def keyN (k : ByteArray) : Nat := if KeyOk k then 0 else 3
theorem keyN_yes {k : ByteArray} (h : KeyOk k) : keyN k = 0 := if_pos h
theorem keyN_no {k : ByteArray} (h : ¬ KeyOk k) : keyN k = 3 := if_neg h
theorem list_eq {a : ByteArray} {l : List UInt8} (h : (a.toList == l) = true) : a = ⟨l.toArray⟩ := by
  apply ba_ext
  rw [ByteArray.toList_eq] at h
  simpa using h
theorem list_ne {a : ByteArray} {l : List UInt8} (h : (a.toList == l) = false) : a ≠ ⟨l.toArray⟩ := fun e => by
  rw [e, ByteArray.toList_eq] at h
  simp at h
theorem cutB_size (s : ByteArray) : (cutB s slash).1.size ≤ s.size ∧ (cutB s slash).2.1.size ≤ s.size := by
  rcases cutB_spec s with ⟨a, b, h1, _, h2⟩ | h
  · rw [h2, h1, ByteArray.size_append, ByteArray.size_append]
    dsimp only
    omega
  · rw [h]
    exact ⟨Nat.le_refl _, Nat.zero_le _⟩
theorem atoiV_six (n : Nat) (h : n < 1000000) : atoiV (six n) = some (n : Int) := by
  unfold atoiV
  have e : Lib.atoiAll (six n).data.toList = .ok (n : Int) := by
    show Lib.atoiAll (esix (n % 1000000)) = _
    rw [Nat.mod_eq_of_lt h]; exact atoi_six n h
  rw [e]
theorem atoiV_bounds {s : ByteArray} {v : Int} (h : atoiV s = some v) : v ≤ 9223372036854775807 := by
  unfold atoiV at h
  split at h
  · cases h
    rename_i h
    exact (Lib.atoiAll_bounds h).2
  · cases h
theorem six_mod (n : Nat) : six (n % 1000000) = six n := by unfold six; rw [Nat.mod_mod]
theorem list_neq {a b : ByteArray} (h : a ≠ b) : (a.toList == b.toList) = false := by
  cases h2 : (a.toList == b.toList) with
  | false => rfl
  | true =>
    exfalso; apply h
    rw [ByteArray.toList_eq, ByteArray.toList_eq] at h2
    exact ba_ext (by simpa using h2)
set_option maxHeartbeats 4000000 in
set_option maxRecDepth 100000 in
theorem check_any (k : ByteArray) (w : World) (h : LibOk w) (hs : k.size ≤ 300) : Calls Tryd.prog 46 #[.string k] w fun e w' => e = .returned (errV (keyN k)) ∧ Ext w w' := by
  have hx : Ext w w := Ext.refl w
  have hK := KeyOk_cut k
  have HC1 := fun w h => cut_any k slash w h (by omega)
  have hb2 : (cutB k slash).2.1.size ≤ 300 := by have := (cutB_size k).2; omega
  generalize cutB k slash = c at *
  obtain ⟨a, b, ok⟩ := c
  dsimp only at *
  rw [show slash = ⟨#[47]⟩ from rfl] at HC1
  have HN1 := fun w => name_any b w (by omega)
  cases ok with
  | false =>
    rw [keyN_no (fun hk => by have := (hK.1 hk).1; cases this), show errV 3 = .iface 97 (.int .i64 3) from rfl]
    clear hK
    go_enter Tryd.func46, Tryd.ntmps46
    go_wp2_with (first | (go_at_call 84; (with_reducible apply Calls.mono (HC1 _ h); rintro e8 w8 ⟨rfl, hx8⟩; replace h := h.ext hx8; replace hx := hx.trans hx8; clear hx8; dsimp only))) -- M1
    go_ret
    exact ⟨rfl, hx⟩
  | true =>
    have hK2 : KeyOk k ↔ ((a = tB ∨ a = qB) ∧ NameOk b ∨ a = mB ∧ (cutB b slash).2.2 = true ∧ NameOk (cutB b slash).1 ∧ ∃ n, n < 1000000 ∧ (cutB b slash).2.1 = six n) := hK.trans ⟨fun h => h.2, fun h => ⟨rfl, h⟩⟩
    clear hK
    cases ht : (a.toList == [116]) with
    | true =>
      have : a = tB := list_eq ht
      have hK3 : KeyOk k ↔ NameOk b := hK2.trans ⟨fun h => h.elim And.right (fun h => by rw [this] at h; exact absurd h.1 (by decide)), fun h => .inl ⟨.inl this, h⟩⟩
      clear hK2 this
      by_cases hN : NameOk b
      · rw [keyN_yes (hK3.2 hN), show errV 0 = .nilIface from rfl]
        rw [decide_eq_true hN] at HN1
        clear hK3 hN
        go_enter Tryd.func46, Tryd.ntmps46
        go_wp2_with (first | (go_at_call 84; (with_reducible apply Calls.mono (HC1 _ h); rintro e8 w8 ⟨rfl, hx8⟩; replace h := h.ext hx8; replace hx := hx.trans hx8; clear hx8; dsimp only)) | (go_at_call 85; (with_reducible apply Calls.mono (HN1 _); rintro e8 w8 ⟨rfl, rfl⟩; dsimp only)))
        go_ret
        exact ⟨rfl, hx⟩
      · rw [keyN_no (fun h => hN (hK3.1 h)), show errV 3 = .iface 97 (.int .i64 3) from rfl]
        rw [decide_eq_false hN] at HN1
        clear hK3 hN
        go_enter Tryd.func46, Tryd.ntmps46
        go_wp2_with (first | (go_at_call 84; (with_reducible apply Calls.mono (HC1 _ h); rintro e8 w8 ⟨rfl, hx8⟩; replace h := h.ext hx8; replace hx := hx.trans hx8; clear hx8; dsimp only)) | (go_at_call 85; (with_reducible apply Calls.mono (HN1 _); rintro e8 w8 ⟨rfl, rfl⟩; dsimp only)))
        go_ret
        exact ⟨rfl, hx⟩
    | false =>
      cases hq : (a.toList == [113]) with
      | true =>
        have : a = qB := list_eq hq
        have hK3 : KeyOk k ↔ NameOk b := hK2.trans ⟨fun h => h.elim And.right (fun h => by rw [this] at h; exact absurd h.1 (by decide)), fun h => .inl ⟨.inr this, h⟩⟩
        clear hK2 this
        by_cases hN : NameOk b
        · rw [keyN_yes (hK3.2 hN), show errV 0 = .nilIface from rfl]
          rw [decide_eq_true hN] at HN1
          clear hK3 hN
          go_enter Tryd.func46, Tryd.ntmps46
          go_wp2_with (first | (go_at_call 84; (with_reducible apply Calls.mono (HC1 _ h); rintro e8 w8 ⟨rfl, hx8⟩; replace h := h.ext hx8; replace hx := hx.trans hx8; clear hx8; dsimp only)) | (go_at_call 85; (with_reducible apply Calls.mono (HN1 _); rintro e8 w8 ⟨rfl, rfl⟩; dsimp only)))
          go_ret
          exact ⟨rfl, hx⟩
        · rw [keyN_no (fun h => hN (hK3.1 h)), show errV 3 = .iface 97 (.int .i64 3) from rfl]
          rw [decide_eq_false hN] at HN1
          clear hK3 hN
          go_enter Tryd.func46, Tryd.ntmps46
          go_wp2_with (first | (go_at_call 84; (with_reducible apply Calls.mono (HC1 _ h); rintro e8 w8 ⟨rfl, hx8⟩; replace h := h.ext hx8; replace hx := hx.trans hx8; clear hx8; dsimp only)) | (go_at_call 85; (with_reducible apply Calls.mono (HN1 _); rintro e8 w8 ⟨rfl, rfl⟩; dsimp only)))
          go_ret
          exact ⟨rfl, hx⟩
      | false =>
        cases hm : (a.toList == [109]) with
        | false =>
          rw [keyN_no (fun h => (hK2.1 h).elim (fun h => h.1.elim (list_ne ht) (list_ne hq)) (fun h => list_ne hm h.1)), show errV 3 = .iface 97 (.int .i64 3) from rfl]
          clear hK2
          go_enter Tryd.func46, Tryd.ntmps46
          go_wp2_with (first | (go_at_call 84; (with_reducible apply Calls.mono (HC1 _ h); rintro e8 w8 ⟨rfl, hx8⟩; replace h := h.ext hx8; replace hx := hx.trans hx8; clear hx8; dsimp only)))
          go_ret
          exact ⟨rfl, hx⟩
        | true =>
          have : a = mB := list_eq hm
          have hK3 : KeyOk k ↔ ((cutB b slash).2.2 = true ∧ NameOk (cutB b slash).1 ∧ ∃ n, n < 1000000 ∧ (cutB b slash).2.1 = six n) := hK2.trans ⟨fun h => h.elim (fun h => by rw [this] at h; exact absurd h.1 (by decide)) And.right, fun h => .inr ⟨this, h⟩⟩
          clear hK2 this HN1
          have HC2 := fun w h => cut_any b slash w h (by omega)
          have hb3 : (cutB b slash).2.1.size ≤ 300 ∧ (cutB b slash).1.size ≤ 300 := by have := cutB_size b; omega
          generalize cutB b slash = c2 at *
          obtain ⟨q, n, is⟩ := c2
          dsimp only at *
          rw [show slash = ⟨#[47]⟩ from rfl] at HC2
          have HN1 := fun w => name_any q w (by omega)
          cases hA : atoiV n with
          | none =>
            rw [keyN_no (fun h => by obtain ⟨_, _, m, hm, rfl⟩ := hK3.1 h; rw [atoiV_six m hm] at hA; cases hA), show errV 3 = .iface 97 (.int .i64 3) from rfl]
            have HA := fun w h => atoi_no n w h (by omega) hA
            clear hK3
            cases is with
            | false =>
              go_enter Tryd.func46, Tryd.ntmps46
              go_wp2_with (first | (go_at_call 84; (with_reducible apply Calls.mono (HC1 _ h); rintro e8 w8 ⟨rfl, hx8⟩; replace h := h.ext hx8; replace hx := hx.trans hx8; clear hx8; dsimp only)) | (go_at_call 84; (with_reducible apply Calls.mono (HC2 _ h); rintro e8 w8 ⟨rfl, hx8⟩; replace h := h.ext hx8; replace hx := hx.trans hx8; clear hx8; dsimp only)) | (go_at_call 86; (with_reducible apply Calls.mono (HA _ h); rintro e8 w8 ⟨⟨x8, N8, rfl⟩, hx8⟩; replace h := h.ext hx8; replace hx := hx.trans hx8; clear hx8; dsimp only)))
              go_ret
              exact ⟨rfl, hx⟩
            | true =>
              by_cases hN : NameOk q
              · rw [decide_eq_true hN] at HN1
                clear hN
                go_enter Tryd.func46, Tryd.ntmps46
                go_wp2_with (first | (go_at_call 84; (with_reducible apply Calls.mono (HC1 _ h); rintro e8 w8 ⟨rfl, hx8⟩; replace h := h.ext hx8; replace hx := hx.trans hx8; clear hx8; dsimp only)) | (go_at_call 84; (with_reducible apply Calls.mono (HC2 _ h); rintro e8 w8 ⟨rfl, hx8⟩; replace h := h.ext hx8; replace hx := hx.trans hx8; clear hx8; dsimp only)) | (go_at_call 86; (with_reducible apply Calls.mono (HA _ h); rintro e8 w8 ⟨⟨x8, N8, rfl⟩, hx8⟩; replace h := h.ext hx8; replace hx := hx.trans hx8; clear hx8; dsimp only)) | (go_at_call 85; (with_reducible apply Calls.mono (HN1 _); rintro e8 w8 ⟨rfl, rfl⟩; dsimp only)))
                go_ret
                exact ⟨rfl, hx⟩
              · rw [decide_eq_false hN] at HN1
                clear hN
                go_enter Tryd.func46, Tryd.ntmps46
                go_wp2_with (first | (go_at_call 84; (with_reducible apply Calls.mono (HC1 _ h); rintro e8 w8 ⟨rfl, hx8⟩; replace h := h.ext hx8; replace hx := hx.trans hx8; clear hx8; dsimp only)) | (go_at_call 84; (with_reducible apply Calls.mono (HC2 _ h); rintro e8 w8 ⟨rfl, hx8⟩; replace h := h.ext hx8; replace hx := hx.trans hx8; clear hx8; dsimp only)) | (go_at_call 86; (with_reducible apply Calls.mono (HA _ h); rintro e8 w8 ⟨⟨x8, N8, rfl⟩, hx8⟩; replace h := h.ext hx8; replace hx := hx.trans hx8; clear hx8; dsimp only)) | (go_at_call 85; (with_reducible apply Calls.mono (HN1 _); rintro e8 w8 ⟨rfl, rfl⟩; dsimp only)))
                go_ret
                exact ⟨rfl, hx⟩
          | some v =>
            have HA := fun w (h : LibOk w) => atoi_ok n v w (by omega) hA
            have hvb := atoiV_bounds hA
            cases is with
            | false =>
              rw [keyN_no (fun h => by have := (hK3.1 h).1; cases this), show errV 3 = .iface 97 (.int .i64 3) from rfl]
              clear hK3
              go_enter Tryd.func46, Tryd.ntmps46
              go_wp2_with (first | (go_at_call 84; (with_reducible apply Calls.mono (HC1 _ h); rintro e8 w8 ⟨rfl, hx8⟩; replace h := h.ext hx8; replace hx := hx.trans hx8; clear hx8; dsimp only)) | (go_at_call 84; (with_reducible apply Calls.mono (HC2 _ h); rintro e8 w8 ⟨rfl, hx8⟩; replace h := h.ext hx8; replace hx := hx.trans hx8; clear hx8; dsimp only)) | (go_at_call 86; (with_reducible apply Calls.mono (HA _ h); rintro e8 w8 ⟨rfl, hx8⟩; replace h := h.ext hx8; replace hx := hx.trans hx8; clear hx8; dsimp only)))
              go_ret
              exact ⟨rfl, hx⟩
            | true =>
              by_cases hN : NameOk q
              · have hK4 : KeyOk k ↔ ∃ m, m < 1000000 ∧ n = six m := hK3.trans ⟨fun h => h.2.2, fun h => ⟨rfl, hN, h⟩⟩
                clear hK3
                rw [decide_eq_true hN] at HN1
                by_cases hv : 0 ≤ v
                · obtain ⟨m, rfl⟩ := Int.eq_ofNat_of_zero_le hv
                  have HS := fun w h => six_any m w h (by omega)
                  by_cases h6 : n.size = 6
                  · have h6' : ((n.size : Int) == 6) = true := by rw [h6]; rfl
                    by_cases hs : six m = n
                    · rw [keyN_yes (hK4.2 ⟨m % 1000000, Nat.mod_lt _ (by decide), by rw [six_mod, hs]⟩), show errV 0 = .nilIface from rfl]
                      rw [hs] at HS
                      clear hK4 hN hv h6
                      go_enter Tryd.func46, Tryd.ntmps46
                      go_wp2_with (first | (go_at_call 84; (with_reducible apply Calls.mono (HC1 _ h); rintro e8 w8 ⟨rfl, hx8⟩; replace h := h.ext hx8; replace hx := hx.trans hx8; clear hx8; dsimp only)) | (go_at_call 84; (with_reducible apply Calls.mono (HC2 _ h); rintro e8 w8 ⟨rfl, hx8⟩; replace h := h.ext hx8; replace hx := hx.trans hx8; clear hx8; dsimp only)) | (go_at_call 86; (with_reducible apply Calls.mono (HA _ h); rintro e8 w8 ⟨rfl, hx8⟩; replace h := h.ext hx8; replace hx := hx.trans hx8; clear hx8; dsimp only)) | (go_at_call 85; (with_reducible apply Calls.mono (HN1 _); rintro e8 w8 ⟨rfl, rfl⟩; dsimp only)) | (go_at_call 87; (with_reducible apply Calls.mono (HS _ h); rintro e8 w8 ⟨rfl, hx8⟩; replace h := h.ext hx8; replace hx := hx.trans hx8; clear hx8; dsimp only)))
                      go_ret
                      exact ⟨rfl, hx⟩
                    · rw [keyN_no (fun h => by
                        obtain ⟨m', hm', rfl⟩ := hK4.1 h
                        rw [atoiV_six m' hm'] at hA
                        injection hA with hA
                        exact hs (by rw [show m = m' from by omega])), show errV 3 = .iface 97 (.int .i64 3) from rfl]
                      have hs2 := list_neq hs
                      generalize six m = y at *
                      clear hK4 hN hv h6 hs
                      go_enter Tryd.func46, Tryd.ntmps46
                      go_wp2_with (first | (go_at_call 84; (with_reducible apply Calls.mono (HC1 _ h); rintro e8 w8 ⟨rfl, hx8⟩; replace h := h.ext hx8; replace hx := hx.trans hx8; clear hx8; dsimp only)) | (go_at_call 84; (with_reducible apply Calls.mono (HC2 _ h); rintro e8 w8 ⟨rfl, hx8⟩; replace h := h.ext hx8; replace hx := hx.trans hx8; clear hx8; dsimp only)) | (go_at_call 86; (with_reducible apply Calls.mono (HA _ h); rintro e8 w8 ⟨rfl, hx8⟩; replace h := h.ext hx8; replace hx := hx.trans hx8; clear hx8; dsimp only)) | (go_at_call 85; (with_reducible apply Calls.mono (HN1 _); rintro e8 w8 ⟨rfl, rfl⟩; dsimp only)) | (go_at_call 87; (with_reducible apply Calls.mono (HS _ h); rintro e8 w8 ⟨rfl, hx8⟩; replace h := h.ext hx8; replace hx := hx.trans hx8; clear hx8; dsimp only)))
                      all_goals (go_ret; exact ⟨rfl, hx⟩)
                  · have h6' : ((n.size : Int) == 6) = false := by simp; omega
                    rw [keyN_no (fun h => by obtain ⟨m', _, rfl⟩ := hK4.1 h; exact h6 rfl), show errV 3 = .iface 97 (.int .i64 3) from rfl]
                    clear hK4 hN hv h6
                    go_enter Tryd.func46, Tryd.ntmps46
                    go_wp2_with (first | (go_at_call 84; (with_reducible apply Calls.mono (HC1 _ h); rintro e8 w8 ⟨rfl, hx8⟩; replace h := h.ext hx8; replace hx := hx.trans hx8; clear hx8; dsimp only)) | (go_at_call 84; (with_reducible apply Calls.mono (HC2 _ h); rintro e8 w8 ⟨rfl, hx8⟩; replace h := h.ext hx8; replace hx := hx.trans hx8; clear hx8; dsimp only)) | (go_at_call 86; (with_reducible apply Calls.mono (HA _ h); rintro e8 w8 ⟨rfl, hx8⟩; replace h := h.ext hx8; replace hx := hx.trans hx8; clear hx8; dsimp only)) | (go_at_call 85; (with_reducible apply Calls.mono (HN1 _); rintro e8 w8 ⟨rfl, rfl⟩; dsimp only)))
                    all_goals (go_ret; exact ⟨rfl, hx⟩)
                · rw [keyN_no (fun h => by obtain ⟨m', hm', rfl⟩ := hK4.1 h; rw [atoiV_six m' hm'] at hA; injection hA with hA; omega), show errV 3 = .iface 97 (.int .i64 3) from rfl]
                  clear hK4 hN
                  go_enter Tryd.func46, Tryd.ntmps46
                  go_wp2_with (first | (go_at_call 84; (with_reducible apply Calls.mono (HC1 _ h); rintro e8 w8 ⟨rfl, hx8⟩; replace h := h.ext hx8; replace hx := hx.trans hx8; clear hx8; dsimp only)) | (go_at_call 84; (with_reducible apply Calls.mono (HC2 _ h); rintro e8 w8 ⟨rfl, hx8⟩; replace h := h.ext hx8; replace hx := hx.trans hx8; clear hx8; dsimp only)) | (go_at_call 86; (with_reducible apply Calls.mono (HA _ h); rintro e8 w8 ⟨rfl, hx8⟩; replace h := h.ext hx8; replace hx := hx.trans hx8; clear hx8; dsimp only)) | (go_at_call 85; (with_reducible apply Calls.mono (HN1 _); rintro e8 w8 ⟨rfl, rfl⟩; dsimp only)))
                  all_goals (go_ret; exact ⟨rfl, hx⟩)
              · rw [keyN_no (fun h => hN (hK3.1 h).2.1), show errV 3 = .iface 97 (.int .i64 3) from rfl]
                rw [decide_eq_false hN] at HN1
                clear hK3 hN
                go_enter Tryd.func46, Tryd.ntmps46
                go_wp2_with (first | (go_at_call 84; (with_reducible apply Calls.mono (HC1 _ h); rintro e8 w8 ⟨rfl, hx8⟩; replace h := h.ext hx8; replace hx := hx.trans hx8; clear hx8; dsimp only)) | (go_at_call 84; (with_reducible apply Calls.mono (HC2 _ h); rintro e8 w8 ⟨rfl, hx8⟩; replace h := h.ext hx8; replace hx := hx.trans hx8; clear hx8; dsimp only)) | (go_at_call 86; (with_reducible apply Calls.mono (HA _ h); rintro e8 w8 ⟨rfl, hx8⟩; replace h := h.ext hx8; replace hx := hx.trans hx8; clear hx8; dsimp only)) | (go_at_call 85; (with_reducible apply Calls.mono (HN1 _); rintro e8 w8 ⟨rfl, rfl⟩; dsimp only)))
                go_ret
                exact ⟨rfl, hx⟩
end Go.Proofs.YtpdnlgopbnkdhaaDoor
namespace Go.Proofs.YtpdnlgopbnkdhaaDoor
open Go.RowKit
theorem parse_append (b : List UInt8) : ∀ (a : List UInt8) (acc u : Nat), Lib.parseUint10 acc a = .ok u → Lib.parseUint10 acc (a ++ b) = Lib.parseUint10 u b
  | [], acc, u, h => by
    simp only [Lib.parseUint10] at h
    injection h with h
    subst h; rfl
  | c :: r, acc, u, h => by
    rw [List.cons_append]
    simp only [Lib.parseUint10] at h ⊢
    split at h
    · split at h
      · cases h
      · split at h
        · cases h
        · rename_i h1 h2 h3
          rw [if_pos h1, if_neg h2, if_neg h3]
          exact parse_append b r _ u h
    · cases h
theorem parse_dec (n : Nat) (h : n < 100000000000000000) : Lib.parseUint10 0 (Lib.decDigits n) = .ok n := by
  induction n using Nat.strongRecOn with
  | ind n ih =>
    by_cases h10 : n < 10
    · rw [dec_one n h10, parse_digit 0 n [] h10 (by omega), Nat.zero_mul, Nat.zero_add]; rfl
    · rw [dec_step n h10, parse_append _ _ _ _ (ih (n / 10) (by omega) (by omega)), parse_digit _ _ _ (by omega) (by omega)]
      simp only [Lib.parseUint10]
      congr 1; omega
theorem dec_mem (n : Nat) : ∀ c ∈ Lib.decDigits n, 48 ≤ c.toNat ∧ c.toNat ≤ 57 := by
  induction n using Nat.strongRecOn with
  | ind n ih =>
    intro c hc
    by_cases h10 : n < 10
    · rw [dec_one n h10, List.mem_singleton] at hc
      rw [hc, d8_toNat n h10]; omega
    · rw [dec_step n h10, List.mem_append, List.mem_singleton] at hc
      rcases hc with hc | hc
      · exact ih (n / 10) (by omega) c hc
      · rw [hc, d8_toNat _ (by omega)]; omega
theorem dec_ne (n : Nat) : Lib.decDigits n ≠ [] := by
  by_cases h10 : n < 10
  · rw [dec_one n h10]; simp
  · rw [dec_step n h10]; simp
theorem dec_len : ∀ (k n : Nat), n < 10 ^ (k + 1) → (Lib.decDigits n).length ≤ k + 1
  | 0, n, h => by rw [dec_one n (by simpa using h)]; simp
  | k + 1, n, h => by
    by_cases h10 : n < 10
    · rw [dec_one n h10]; simp
    · rw [dec_step n h10, List.length_append]
      have := dec_len k (n / 10) (by rw [Nat.pow_succ] at h; omega)
      simp; omega
theorem itoaB_list (n : Nat) : (itoaB n).data.toList = Lib.decDigits n := by unfold itoaB; rw [Lib.itoa_nonneg]
theorem atoiV_dec (n : Nat) (h : n < 100000000000000000) : atoiV (itoaB n) = some (n : Int) := by
  have e : Lib.atoiAll (itoaB n).data.toList = .ok (n : Int) := by
    rw [itoaB_list]
    have hp := parse_dec n h
    have hm := dec_mem n
    have hne := dec_ne n
    generalize Lib.decDigits n = l at *
    cases l with
    | nil => exact absurd rfl hne
    | cons c r =>
      have hc := hm c (List.mem_cons_self ..)
      unfold Lib.atoiAll
      dsimp only
      rw [if_neg (by omega)]
      unfold Lib.parseMag
      rw [if_neg (by simp), hp]
      dsimp only
      rw [if_neg (by omega), if_neg (by omega), if_neg (by omega)]
  unfold atoiV
  rw [e]
theorem itoaB_size (k n : Nat) (h : n < 10 ^ (k + 1)) : (itoaB n).size ≤ k + 1 := by
  have := dec_len k n h
  rw [← itoaB_list] at this
  simpa using this
theorem itoaB_nosp (n : Nat) : (32 : UInt8) ∉ (itoaB n).data.toList := fun h => by
  rw [itoaB_list] at h
  have := (dec_mem n _ h).1
  rw [show UInt8.toNat 32 = 32 from rfl] at this
  omega
theorem name_nosp {a : ByteArray} (h : NameOk a) : (32 : UInt8) ∉ a.data.toList := fun hm => by
  obtain ⟨i, hi, he⟩ := List.getElem_of_mem hm
  have := h.2.2 i (by simpa using hi)
  have e : a[i]'(by simpa using hi) = 32 := by rw [← he]; rfl
  rw [e] at this
  unfold OkAt at this
  rw [show UInt8.toNat 32 = 32 from rfl] at this
  omega
def sp : ByteArray := ⟨#[32]⟩
theorem indexB_hit (x r : ByteArray) (h : (32 : UInt8) ∉ x.data.toList) : Lib.indexB (x ++ sp ++ r) sp = x.size := by
  unfold Lib.indexB
  have e : (x ++ sp ++ r).data.toList = x.data.toList ++ 32 :: r.data.toList := by rw [app_data, app_data, List.append_assoc]; rfl
  rw [e, show sp.data.toList = [32] from rfl, index_hit 32 _ _ h]
  simp
theorem indexB_miss (x : ByteArray) (h : (32 : UInt8) ∉ x.data.toList) : Lib.indexB x sp = -1 := by
  unfold Lib.indexB
  rw [show sp.data.toList = [32] from rfl, index_miss 32 _ h]
theorem count_hit' (x r : ByteArray) (h : (32 : UInt8) ∉ x.data.toList) : Lib.countB (x ++ sp ++ r) sp = 1 + Lib.countB r sp := by
  rw [Lib.countB_hit _ _ _ (by decide) (indexB_hit x r h)]
  congr 2
  exact ba_ext (by
    have e : (x ++ sp ++ r).data.toList = x.data.toList ++ 32 :: r.data.toList := by rw [app_data, app_data, List.append_assoc]; rfl
    have hl : (x ++ sp ++ r).size = x.size + 1 + r.size := by rw [ByteArray.size_append, ByteArray.size_append]; rfl
    rw [ByteArray.data_extract, Array.toList_extract, hl, e]
    have hx : x.size = x.data.toList.length := by simp
    have hr : r.size = r.data.toList.length := by simp
    rw [show sp.size = 1 from rfl, List.extract_eq_take_drop, hx, hr, ← List.drop_drop, List.drop_left]
    simp only [List.drop_succ_cons, List.drop_zero]
    rw [List.take_of_length_le (by omega)])
end Go.Proofs.YtpdnlgopbnkdhaaDoor
namespace Go.Proofs.YtpdnlgopbnkdhaaDoor
open Go.RowKit
theorem LibOk.up {w w' : World} (h : LibOk w) (hb : ∀ b, b < w.heap.size → w'.heap[b]? = w.heap[b]?) : LibOk w' := by
  have up : ∀ {a v}, w.cell? a = some v → w'.cell? a = some v := fun {a v} hc => by
    have hl : a.block < w.heap.size := by
      unfold World.cell? at hc
      split at hc
      · rename_i he; exact (Array.getElem?_eq_some_iff.1 he).1
      · cases hc
    rw [World.cell?_of_block (w := w) (hb _ hl)]; exact hc
  exact ⟨h.max.imp fun _ h => up h, h.syn.imp fun _ h => h.imp fun _ h => up h, h.rng.imp fun _ h => h.imp fun _ h => up h, tab_up h.tab hb⟩
theorem lib_base {w : World} (h : LibOk w) : Own (fun _ => False) w w [.imm LibOk] := Own.base w _ fun w' hw' => h.up hw'
/-- What stands in a row: two numbers and a text. -/
def rowS (a b : Nat) (d : ByteArray) : ByteArray := itoaB a ++ sp ++ (itoaB b ++ sp ++ d)
theorem rowS_eq (a b : Nat) (d : ByteArray) : (((itoaB a ++ ⟨#[32]⟩) ++ itoaB b) ++ ⟨#[32]⟩) ++ d = rowS a b d := ba_ext (by
  unfold rowS
  rw [app_data, app_data, app_data, app_data, app_data, app_data, app_data, app_data]; simp only [List.append_assoc]; rfl)
theorem rowS_size (a b : Nat) (d : ByteArray) : (rowS a b d).size = (itoaB a).size + (itoaB b).size + 2 + d.size := by
  unfold rowS
  rw [ByteArray.size_append, ByteArray.size_append, ByteArray.size_append, ByteArray.size_append]
  show (itoaB a).size + 1 + ((itoaB b).size + 1 + d.size) = _
  omega
end Go.Proofs.YtpdnlgopbnkdhaaDoor
