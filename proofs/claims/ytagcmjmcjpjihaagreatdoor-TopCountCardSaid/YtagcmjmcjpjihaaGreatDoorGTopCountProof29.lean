/- Texts Row4, Row6, KeyC, Row7, Change, Change2, Change3, Row5, Words2, Row8, Row9, TopRow, RowSays, Qt of this claim, laid together. -/
import Derived.Test.YtagcmjmcjpjihaaGreatDoorGTopCountProof26
import Derived.WalkSpells
import Derived.WalkLawsBesides
import Derived.Test.YtagcmjmcjpjihaaGreatDoorGTopCountProof5
import Derived.Test.YtagcmjmcjpjihaaGreatDoorGTopCountProof10
set_option linter.unusedVariables false
set_option linter.unusedSimpArgs false
namespace Go.Proofs.YtagcmjmcjpjihaaGreatDoor
open Go.RowKit
theorem LibOk.up {w w' : World} (h : LibOk w) (hb : ∀ b, b < w.heap.size → w'.heap[b]? = w.heap[b]?) : LibOk w' := by
  have up : ∀ {a v}, w.cell? a = some v → w'.cell? a = some v := fun {a v} hc => by
    have hl : a.block < w.heap.size := by
      unfold World.cell? at hc
      split at hc
      · rename_i he; exact (Array.getElem?_eq_some_iff.1 he).1
      · cases hc
    rw [World.cell?_of_block (w := w) (hb _ hl)]; exact hc
  exact ⟨h.max.imp fun _ h => up h, h.syn.imp fun _ h => h.imp fun _ h => up h, h.rng.imp fun _ h => h.imp fun _ h => up h, tab_up h.tab hb⟩
theorem lib_base {w : World} (h : LibOk w) : Own (fun _ => False) w w [.imm LibOk] := Own.base w _ fun w' hw' => h.up hw'
/-- What stands in a row: two numbers and a text. -/
def rowS (a b : Nat) (d : ByteArray) : ByteArray := itoaB a ++ sp ++ (itoaB b ++ sp ++ d)
end Go.Proofs.YtagcmjmcjpjihaaGreatDoor
namespace Go.Proofs.YtagcmjmcjpjihaaGreatDoor
open Go.RowKit
theorem Tryz.intU8 : Tryz.prog.underlying 5 = some (.int .u8) := by kernel_rfl
end Go.Proofs.YtagcmjmcjpjihaaGreatDoor
namespace Go.Proofs.YtagcmjmcjpjihaaGreatDoor
open Go.RowKit
def loB (a : ByteArray) : ByteArray := mB ++ slash ++ a ++ slash
def hiB (a : ByteArray) : ByteArray := mB ++ slash ++ a ++ ⟨#[48]⟩
def belowB (k hi : ByteArray) : Bool := hi.toList.isEmpty || slt k hi
def hasB (lo hi k : ByteArray) : Bool := !slt k lo && belowB k hi
end Go.Proofs.YtagcmjmcjpjihaaGreatDoor
namespace Go.Proofs.YtagcmjmcjpjihaaGreatDoor
open Go.RowKit
end Go.Proofs.YtagcmjmcjpjihaaGreatDoor
namespace Go.Proofs.YtagcmjmcjpjihaaGreatDoor
open Go.RowKit
/-- May it be a change? -/
def ChOk (c : Ch) : Prop := KeyOk c.key ∧ (c.gone = true → c.val.size = 0) ∧ c.val.size ≤ 40
open Classical in
noncomputable def chN (c : Ch) : Nat := if KeyOk c.key then (if c.gone = true ∧ c.val.size ≠ 0 then 3 else if 40 < c.val.size then 1 else 0) else 3
theorem chN_no {c : Ch} (h : ¬ KeyOk c.key) : chN c = 3 := if_neg h
theorem chN_gone {c : Ch} (h : KeyOk c.key) (h2 : c.gone = true) (h3 : c.val.size ≠ 0) : chN c = 3 := by unfold chN; rw [if_pos h, if_pos ⟨h2, h3⟩]
theorem chN_big {c : Ch} (h : KeyOk c.key) (h2 : c.gone = true → c.val.size = 0) (h3 : 40 < c.val.size) : chN c = 1 := by
  unfold chN; rw [if_pos h, if_neg (fun e => e.2 (h2 e.1)), if_pos h3]
theorem chN_ok {c : Ch} (h : ChOk c) : chN c = 0 := by
  unfold chN; rw [if_pos h.1, if_neg (fun e => e.2 (h.2.1 e.1)), if_neg (by have := h.2.2; omega)]
theorem chN_le (c : Ch) : chN c ≤ 3 := by
  unfold chN; split
  · split
    · omega
    · split <;> omega
  · omega
theorem chN_zero {c : Ch} : chN c = 0 ↔ ChOk c := by
  refine ⟨fun h => ?_, chN_ok⟩
  unfold chN at h
  split at h
  · rename_i h1
    split at h
    · cases h
    · rename_i h2
      split at h
      · cases h
      · rename_i h3
        refine ⟨h1, fun hg => ?_, by omega⟩
        by_cases hv : c.val.size = 0
        · exact hv
        · exact absurd ⟨hg, hv⟩ h2
  · cases h
theorem key_size {k : ByteArray} (h : KeyOk k) : k.size ≤ 15 := by
  rcases h with ⟨a, ha, rfl | rfl⟩ | ⟨q, n, hq, hn, rfl⟩
  · rw [ByteArray.size_append, ByteArray.size_append]; have := ha.2.1; show 1 + 1 + a.size ≤ 15; omega
  · rw [ByteArray.size_append, ByteArray.size_append]; have := ha.2.1; show 1 + 1 + a.size ≤ 15; omega
  · rw [ByteArray.size_append, ByteArray.size_append, ByteArray.size_append, ByteArray.size_append, six_size]; have := hq.2.1; show 1 + 1 + (q.size + 1 + 6) ≤ 15; omega
theorem size_list (d : ByteArray) : d.toList.length = d.size := by rw [ByteArray.toList_eq]; rfl
theorem list_nil {d : ByteArray} : d.toList = [] ↔ d.size = 0 := by rw [← List.length_eq_zero_iff, size_list]
set_option maxHeartbeats 2000000 in
set_option maxRecDepth 100000 in
theorem chCheck_any (c : Ch) (w : World) (h : LibOk w) (hs : c.key.size ≤ 300) (hv : c.val.size ≤ 1000) : Calls Tryz.prog 149 #[c.v] w fun e w' => e = .returned (errV (chN c)) ∧ Ext w w' := by
  have hO := lib_base h
  have hC := fun w h => check_any c.key w h (by omega)
  unfold Ch.v
  by_cases hk : KeyOk c.key
  · rw [keyN_yes hk, show errV 0 = .nilIface from rfl] at hC
    by_cases hg : c.gone = true ∧ c.val.size ≠ 0
    · rw [chN_gone hk hg.1 hg.2]
      have e : errV 3 = .iface 124 (.int .i64 3) := rfl
      rw [e]
      clear e
      have hvl : ¬ c.val.toList = [] := fun e => hg.2 (list_nil.1 e)
      obtain ⟨k, v, g⟩ := c
      obtain ⟨rfl, hg2⟩ := hg
      dsimp only at *
      go_enter Tryz.func149, Tryz.ntmps149
      go_wp2_with (first | (go_at_call 111; (with_reducible apply Calls.mono (hC _ (Own.immOf (φ := LibOk) hO pk_)); refine cu_ ?_; clear hO; (try clear hf); intro w8 hO hf)) | (refine sq_ ?_; clear hO; (try clear hf); intro w9 hO hf))
      all_goals first | (exfalso; omega) | (go_ret; exact ⟨rfl, hO.toExt⟩) | (exfalso; simp_all; done)
    · have hg' : c.gone = true → c.val.size = 0 := fun e => by
        by_cases hv : c.val.size = 0
        · exact hv
        · exact absurd ⟨e, hv⟩ hg
      by_cases hb : 40 < c.val.size
      · rw [chN_big hk hg' hb]
        have e : errV 1 = .iface 124 (.int .i64 1) := rfl
        rw [e]
        clear e
        obtain ⟨k, v, g⟩ := c
        cases g with
        | true => exact absurd (hg' rfl) (by dsimp only at *; omega)
        | false =>
          clear hg hg'
          dsimp only at *
          go_enter Tryz.func149, Tryz.ntmps149
          go_wp2_with (first | (go_at_call 111; (with_reducible apply Calls.mono (hC _ (Own.immOf (φ := LibOk) hO pk_)); refine cu_ ?_; clear hO; (try clear hf); intro w8 hO hf)) | (refine sq_ ?_; clear hO; (try clear hf); intro w9 hO hf))
          all_goals first | (exfalso; omega) | (go_ret; exact ⟨rfl, hO.toExt⟩) | (exfalso; simp_all; done)
      · rw [chN_ok ⟨hk, hg', by omega⟩, show errV 0 = .nilIface from rfl]
        obtain ⟨k, v, g⟩ := c
        cases g with
        | true =>
          have hvl : v.toList = [] := list_nil.2 (hg' rfl)
          clear hg hg'
          dsimp only at *
          go_enter Tryz.func149, Tryz.ntmps149
          go_wp2_with (first | (go_at_call 111; (with_reducible apply Calls.mono (hC _ (Own.immOf (φ := LibOk) hO pk_)); refine cu_ ?_; clear hO; (try clear hf); intro w8 hO hf)) | (refine sq_ ?_; clear hO; (try clear hf); intro w9 hO hf))
          all_goals first | (exfalso; omega) | (go_ret; exact ⟨rfl, hO.toExt⟩) | (exfalso; simp_all; done)
        | false =>
          clear hg hg'
          dsimp only at *
          go_enter Tryz.func149, Tryz.ntmps149
          go_wp2_with (first | (go_at_call 111; (with_reducible apply Calls.mono (hC _ (Own.immOf (φ := LibOk) hO pk_)); refine cu_ ?_; clear hO; (try clear hf); intro w8 hO hf)) | (refine sq_ ?_; clear hO; (try clear hf); intro w9 hO hf))
          all_goals first | (exfalso; omega) | (go_ret; exact ⟨rfl, hO.toExt⟩) | (exfalso; simp_all; done)
  · rw [chN_no hk]
    rw [keyN_no hk] at hC
    have e : errV 3 = .iface 124 (.int .i64 3) := rfl
    rw [e] at hC ⊢
    clear e
    go_enter Tryz.func149, Tryz.ntmps149
    go_wp2_with (first | (go_at_call 111; (with_reducible apply Calls.mono (hC _ (Own.immOf (φ := LibOk) hO pk_)); refine cu_ ?_; clear hO; (try clear hf); intro w8 hO hf)) | (refine sq_ ?_; clear hO; (try clear hf); intro w9 hO hf))
    all_goals first | (exfalso; omega) | (go_ret; exact ⟨rfl, hO.toExt⟩) | (exfalso; simp_all; done)
end Go.Proofs.YtagcmjmcjpjihaaGreatDoor
namespace Go.Proofs.YtagcmjmcjpjihaaGreatDoor
open Go.RowKit
/-- A change's bytes. -/
def bytesC (c : Ch) : ByteArray := ⟨#[if c.gone then 1 else 0, UInt8.ofNat c.key.size]⟩ ++ c.key ++ c.val
theorem push_two (a b : Int) : ([a, b] : List Int).foldl (fun r n => r.push (UInt8.ofNat n.toNat)) ByteArray.empty = ⟨#[UInt8.ofNat a.toNat, UInt8.ofNat b.toNat]⟩ := rfl
set_option maxHeartbeats 2000000 in
set_option maxRecDepth 100000 in
theorem bytes_ok (c : Ch) (w : World) (h : LibOk w) (hs : c.key.size ≤ 200) (hv : c.val.size ≤ 1000) (hc : ChOk c) : Calls Tryz.prog 250 #[c.v] w fun e w' => e = .returned (.tuple #[.string (bytesC c), errV 0]) ∧ Ext w w' := by
  have hks := key_size hc.1
  have hO := lib_base h; have hC := fun w h => chCheck_any c w h (by omega) hv
  rw [chN_ok hc] at hC
  try rw [show errV 0 = .nilIface from rfl] at hC
  obtain ⟨x, hx⟩ : ∃ x, x = (⟨#[if c.gone then 1 else 0, UInt8.ofNat c.key.size]⟩ : ByteArray) := ⟨_, rfl⟩
  have hxs : x.size = 2 := by rw [hx]; rfl
  have hfin : bytesC c = x ++ c.key ++ c.val := by rw [hx]; rfl
  rw [hfin]
  clear hfin
  have HX := Lib.hid hx
  clear hx hc
  unfold Ch.v at *
  obtain ⟨k, v, g⟩ := c
  dsimp only at *
  have hm : ((k.size : Int) % 256) = k.size := by omega
  cases g with
  | true =>
    have HY : (⟨#[UInt8.ofNat (1 : Int).toNat, UInt8.ofNat (k.size : Int).toNat]⟩ : ByteArray) = x := HX.out.symm
    go_enter Tryz.func250, Tryz.ntmps250
    go_wp2_with (first | (go_at_call 149; (with_reducible apply Calls.mono (hC _ (Own.immOf (φ := LibOk) hO pk_)); refine cu_ ?_; clear hO; (try clear hf); intro w8 hO hf)) | ((refine wpList_bytes_own4 hO (r := Var _ [.int .u8 1, .int .u8 (k.size : Int)] 5) pk_ rfl (.tmp 18) 244 9 5 rfl Tryz.underlying244 Tryz.intU8 Tryz.underlying9 _ 0 2 2 [1, (k.size : Int)] rfl rfl (fun j u hj => Var.at (t := 5) (hO.factOf (r := Var _ [.int .u8 1, .int .u8 (k.size : Int)] 5) pk_) j u hj) ?_; rw [push_two]); rw [HY]) | (refine sq_ ?_; clear hO; (try clear hf); intro w9 hO hf))
    go_ret2
    exact ⟨rfl, hO.toExt⟩
  | false =>
    have HY : (⟨#[UInt8.ofNat (0 : Int).toNat, UInt8.ofNat (k.size : Int).toNat]⟩ : ByteArray) = x := HX.out.symm
    go_enter Tryz.func250, Tryz.ntmps250
    go_wp2_with (first | (go_at_call 149; (with_reducible apply Calls.mono (hC _ (Own.immOf (φ := LibOk) hO pk_)); refine cu_ ?_; clear hO; (try clear hf); intro w8 hO hf)) | ((refine wpList_bytes_own4 hO (r := Var _ [.int .u8 0, .int .u8 (k.size : Int)] 5) pk_ rfl (.tmp 18) 244 9 5 rfl Tryz.underlying244 Tryz.intU8 Tryz.underlying9 _ 0 2 2 [0, (k.size : Int)] rfl rfl (fun j u hj => Var.at (t := 5) (hO.factOf (r := Var _ [.int .u8 0, .int .u8 (k.size : Int)] 5) pk_) j u hj) ?_; rw [push_two]); rw [HY]) | (refine sq_ ?_; clear hO; (try clear hf); intro w9 hO hf))
    go_ret2
    exact ⟨rfl, hO.toExt⟩

end Go.Proofs.YtagcmjmcjpjihaaGreatDoor
namespace Go.Proofs.YtagcmjmcjpjihaaGreatDoor
open Go.RowKit
/-- The bytes hold a change so. -/
structure Reads3 (s : ByteArray) (c : Ch) : Prop where
  h2 : 2 ≤ s.size
  h0 : (s[0]'(by omega)).toNat ≤ 1
  h1 : 2 + (s[1]'(by omega)).toNat ≤ s.size
  key : c.key = s.extract 2 (2 + (s[1]'(by omega)).toNat)
  val : c.val = s.extract (2 + (s[1]'(by omega)).toNat) s.size
  gone : c.gone = ((s[0]'(by omega)).toNat == 1)
set_option maxHeartbeats 2000000 in
set_option maxRecDepth 100000 in
theorem parse_ok (s : ByteArray) (c : Ch) (w : World) (h : LibOk w) (hs : s.size ≤ 300) (hr : Reads3 s c) (hc : ChOk c) : Calls Tryz.prog 223 #[.string s] w fun e w' => e = .returned (.tuple #[c.v, .nilIface]) ∧ Ext w w' := by
  have hx1 := key_size hc.1
  have hx2 := hc.2.2
  have hO := lib_base h; have hC := fun w h => chCheck_any c w h (by omega) (by omega)
  have h20 : 0 < s.size := by have := hr.h2; omega
  have hg : c.gone = ((s[0]'h20).toNat == 1) := hr.gone
  obtain ⟨h2, h0, h1, hk, hv, -⟩ := hr
  rw [chN_ok hc] at hC
  try rw [show errV 0 = .nilIface from rfl] at hC
  clear hx1 hx2
  obtain ⟨k, v, g⟩ := c
  dsimp only at hk hv hg
  clear hc
  unfold Ch.v at *
  dsimp only at hC ⊢
  subst hk
  subst hv
  have hz : (s[0]'h20).toNat = 0 ∨ (s[0]'h20).toNat = 1 := by omega
  rcases hz with hz | hz
  · rw [hz] at hg
    obtain rfl : g = false := hg
    have HZ := Lib.hid hz
    clear hz
    go_enter Tryz.func223, Tryz.ntmps223
    go_wp2_with (first | (refine sq_ ?_; clear hO; (try clear hf); intro w9 hO hf))
    have hz := HZ.out
    (refine rg_ hO ((0, 0) :: (0, 1) :: (0, 2) :: (0, 3) :: (0, 4) :: (0, 5) :: (0, 6) :: (0, 7) :: (0, 8) :: (0, 9) :: (4, 10) :: (5, 11) :: []) ?_; clear hO; intro w9 hO; replace hf := fa_ hO; (refine ss_ hO ?_; clear hO; (try clear hf); intro w9 hO hf))
    (refine inRun_x rfl ?_; intro K8 hK8; (repeat (first | go_skip | go_guarded | go_step)); refine hK8 _ _ xt_ ?_; clear hK8 K8; with_reducible refine inRun_alloc_own hO ?_; clear hO; intro w9 hO; (replace hf := fa_ hO))
    (refine inRun_d rfl ?_; intro K8 hK8; (repeat (first | go_skip | go_guarded | go_step)); refine hK8 _ _ trivial ?_; clear hK8 K8; with_reducible apply inRun_set_own; (focus (exact st_ hO)); clear hO; intro w9 hO; (try dsimp only [List.set] at hO); (replace hf := fa_ hO))
    refine inRun_nil ?_
    go_wp2_with (first | (go_at_call 149; (with_reducible apply Calls.mono (hC _ (Own.immOf (φ := LibOk) hO pk_)); refine cu_ ?_; clear hO; (try clear hf); intro w8 hO hf)) | (refine sq_ ?_; clear hO; (try clear hf); intro w9 hO hf))
    refine bodyPost_run rfl fun K hK => ?_; simp [results, Tryz.results223, go_sem, hf]; exact hK _ ⟨rfl, hO.toExt⟩
  · rw [hz] at hg
    obtain rfl : g = true := hg
    have HZ := Lib.hid hz
    clear hz
    go_enter Tryz.func223, Tryz.ntmps223
    go_wp2_with (first | (refine sq_ ?_; clear hO; (try clear hf); intro w9 hO hf))
    have hz := HZ.out
    (refine rg_ hO ((0, 0) :: (0, 1) :: (0, 2) :: (0, 3) :: (0, 4) :: (0, 5) :: (0, 6) :: (0, 7) :: (0, 8) :: (0, 9) :: (4, 10) :: (5, 11) :: []) ?_; clear hO; intro w9 hO; replace hf := fa_ hO; (refine ss_ hO ?_; clear hO; (try clear hf); intro w9 hO hf))
    (refine inRun_x rfl ?_; intro K8 hK8; (repeat (first | go_skip | go_guarded | go_step)); refine hK8 _ _ xt_ ?_; clear hK8 K8; with_reducible refine inRun_alloc_own hO ?_; clear hO; intro w9 hO; (replace hf := fa_ hO))
    (refine inRun_d rfl ?_; intro K8 hK8; (repeat (first | go_skip | go_guarded | go_step)); refine hK8 _ _ trivial ?_; clear hK8 K8; with_reducible apply inRun_set_own; (focus (exact st_ hO)); clear hO; intro w9 hO; (try dsimp only [List.set] at hO); (replace hf := fa_ hO))
    refine inRun_nil ?_
    go_wp2_with (first | (go_at_call 149; (with_reducible apply Calls.mono (hC _ (Own.immOf (φ := LibOk) hO pk_)); refine cu_ ?_; clear hO; (try clear hf); intro w8 hO hf)) | (refine sq_ ?_; clear hO; (try clear hf); intro w9 hO hf))
    refine bodyPost_run rfl fun K hK => ?_; simp [results, Tryz.results223, go_sem, hf]; exact hK _ ⟨rfl, hO.toExt⟩
set_option maxHeartbeats 2000000 in
set_option maxRecDepth 100000 in
theorem parse_bad (s : ByteArray) (c : Ch) (w : World) (h : LibOk w) (hs : s.size ≤ 300) (hr : Reads3 s c) (hc : ¬ ChOk c) : Calls Tryz.prog 223 #[.string s] w fun e w' => e = .returned (.tuple #[.agg #[.string ⟨#[]⟩, .string ⟨#[]⟩, .bool false], errV 4]) ∧ Ext w w' := by
  have hx1 : c.key.size ≤ 300 := by rw [hr.key, ByteArray.size_extract]; omega
  have hx2 : c.val.size ≤ 1000 := by rw [hr.val, ByteArray.size_extract]; omega
  have hO := lib_base h; have hC := fun w h => chCheck_any c w h hx1 hx2
  have h20 : 0 < s.size := by have := hr.h2; omega
  have hg : c.gone = ((s[0]'h20).toNat == 1) := hr.gone
  obtain ⟨h2, h0, h1, hk, hv, -⟩ := hr
  obtain ⟨m, hm⟩ : ∃ m, chN c = m + 1 := ⟨chN c - 1, by have : chN c ≠ 0 := fun e => hc (chN_zero.1 e); omega⟩
  rw [hm] at hC
  try rw [show errV (m + 1) = .iface 124 (.int .i64 ((m + 1 : Nat) : Int)) from rfl] at hC
  rw [show (errV 4 : Value) = .iface 124 (.int .i64 4) from rfl]
  clear hx1 hx2 hm
  obtain ⟨k, v, g⟩ := c
  dsimp only at hk hv hg
  clear hc
  unfold Ch.v at *
  dsimp only at hC ⊢
  subst hk
  subst hv
  have hz : (s[0]'h20).toNat = 0 ∨ (s[0]'h20).toNat = 1 := by omega
  rcases hz with hz | hz
  · rw [hz] at hg
    obtain rfl : g = false := hg
    have HZ := Lib.hid hz
    clear hz
    go_enter Tryz.func223, Tryz.ntmps223
    go_wp2_with (first | (refine sq_ ?_; clear hO; (try clear hf); intro w9 hO hf))
    have hz := HZ.out
    (refine rg_ hO ((0, 0) :: (0, 1) :: (0, 2) :: (0, 3) :: (0, 4) :: (0, 5) :: (0, 6) :: (0, 7) :: (0, 8) :: (0, 9) :: (4, 10) :: (5, 11) :: []) ?_; clear hO; intro w9 hO; replace hf := fa_ hO; (refine ss_ hO ?_; clear hO; (try clear hf); intro w9 hO hf))
    (refine inRun_x rfl ?_; intro K8 hK8; (repeat (first | go_skip | go_guarded | go_step)); refine hK8 _ _ xt_ ?_; clear hK8 K8; with_reducible refine inRun_alloc_own hO ?_; clear hO; intro w9 hO; (replace hf := fa_ hO))
    (refine inRun_d rfl ?_; intro K8 hK8; (repeat (first | go_skip | go_guarded | go_step)); refine hK8 _ _ trivial ?_; clear hK8 K8; with_reducible apply inRun_set_own; (focus (exact st_ hO)); clear hO; intro w9 hO; (try dsimp only [List.set] at hO); (replace hf := fa_ hO))
    refine inRun_nil ?_
    go_wp2_with (first | (go_at_call 149; (with_reducible apply Calls.mono (hC _ (Own.immOf (φ := LibOk) hO pk_)); refine cu_ ?_; clear hO; (try clear hf); intro w8 hO hf)) | (refine sq_ ?_; clear hO; (try clear hf); intro w9 hO hf))
    all_goals first | (refine bodyPost_run rfl fun K hK => ?_; simp [results, Tryz.results223, go_sem, hf]; exact hK _ ⟨rfl, hO.toExt⟩; done) | (exfalso; omega)
  · rw [hz] at hg
    obtain rfl : g = true := hg
    have HZ := Lib.hid hz
    clear hz
    go_enter Tryz.func223, Tryz.ntmps223
    go_wp2_with (first | (refine sq_ ?_; clear hO; (try clear hf); intro w9 hO hf))
    have hz := HZ.out
    (refine rg_ hO ((0, 0) :: (0, 1) :: (0, 2) :: (0, 3) :: (0, 4) :: (0, 5) :: (0, 6) :: (0, 7) :: (0, 8) :: (0, 9) :: (4, 10) :: (5, 11) :: []) ?_; clear hO; intro w9 hO; replace hf := fa_ hO; (refine ss_ hO ?_; clear hO; (try clear hf); intro w9 hO hf))
    (refine inRun_x rfl ?_; intro K8 hK8; (repeat (first | go_skip | go_guarded | go_step)); refine hK8 _ _ xt_ ?_; clear hK8 K8; with_reducible refine inRun_alloc_own hO ?_; clear hO; intro w9 hO; (replace hf := fa_ hO))
    (refine inRun_d rfl ?_; intro K8 hK8; (repeat (first | go_skip | go_guarded | go_step)); refine hK8 _ _ trivial ?_; clear hK8 K8; with_reducible apply inRun_set_own; (focus (exact st_ hO)); clear hO; intro w9 hO; (try dsimp only [List.set] at hO); (replace hf := fa_ hO))
    refine inRun_nil ?_
    go_wp2_with (first | (go_at_call 149; (with_reducible apply Calls.mono (hC _ (Own.immOf (φ := LibOk) hO pk_)); refine cu_ ?_; clear hO; (try clear hf); intro w8 hO hf)) | (refine sq_ ?_; clear hO; (try clear hf); intro w9 hO hf))
    all_goals first | (refine bodyPost_run rfl fun K hK => ?_; simp [results, Tryz.results223, go_sem, hf]; exact hK _ ⟨rfl, hO.toExt⟩; done) | (exfalso; omega)
set_option maxHeartbeats 2000000 in
set_option maxRecDepth 100000 in
theorem parse_few (s : ByteArray) (w : World) (h : LibOk w) (hs : s.size ≤ 300) (hr : ¬ ∃ c, Reads3 s c) : Calls Tryz.prog 223 #[.string s] w fun e w' => e = .returned (.tuple #[.agg #[.string ⟨#[]⟩, .string ⟨#[]⟩, .bool false], errV 4]) ∧ Ext w w' := by
  rw [show (errV 4 : Value) = .iface 124 (.int .i64 4) from rfl]
  have hO := Own.start w (fun _ => False)
  by_cases h2 : 2 ≤ s.size
  · have h01 : ¬ ((s[0]'(by omega)).toNat ≤ 1 ∧ 2 + (s[1]'(by omega)).toNat ≤ s.size) := fun ⟨h0, h1⟩ => hr ⟨⟨s.extract 2 (2 + (s[1]'(by omega)).toNat), s.extract (2 + (s[1]'(by omega)).toNat) s.size, (s[0]'(by omega)).toNat == 1⟩, ⟨h2, h0, h1, rfl, rfl, rfl⟩⟩
    clear hr
    have hb : (s[1]'(by omega)).toNat < 256 := UInt8.toNat_lt _
    by_cases h0 : (s[0]'(by omega)).toNat ≤ 1
    · have h1 : ¬ 2 + (s[1]'(by omega)).toNat ≤ s.size := fun h => h01 ⟨h0, h⟩
      clear h01
      go_enter Tryz.func223, Tryz.ntmps223
      go_wp2_with (first | (refine sq_ ?_; clear hO; (try clear hf); intro w9 hO hf))
      all_goals first | (refine bodyPost_run rfl fun K hK => ?_; simp [results, Tryz.results223, go_sem, hf]; exact hK _ ⟨rfl, hO.toExt⟩; done) | (exfalso; omega)
    · clear h01
      go_enter Tryz.func223, Tryz.ntmps223
      go_wp2_with (first | (refine sq_ ?_; clear hO; (try clear hf); intro w9 hO hf))
      all_goals first | (refine bodyPost_run rfl fun K hK => ?_; simp [results, Tryz.results223, go_sem, hf]; exact hK _ ⟨rfl, hO.toExt⟩; done) | (exfalso; omega)
  · clear hr
    go_enter Tryz.func223, Tryz.ntmps223
    go_wp2_with (first | (refine sq_ ?_; clear hO; (try clear hf); intro w9 hO hf))
    all_goals first | (refine bodyPost_run rfl fun K hK => ?_; simp [results, Tryz.results223, go_sem, hf]; exact hK _ ⟨rfl, hO.toExt⟩; done) | (exfalso; omega)

end Go.Proofs.YtagcmjmcjpjihaaGreatDoor
namespace Go.Proofs.YtagcmjmcjpjihaaGreatDoor
open Go.RowKit
end Go.Proofs.YtagcmjmcjpjihaaGreatDoor
namespace Go.Proofs.YtagcmjmcjpjihaaGreatDoor
open Go.RowKit
theorem Tryz.infoStr : (Tryz.prog.info? 9).map (fun i => (i.zero, i.size, i.bytes)) = some (some (.string ⟨#[]⟩), 1, 16) := by kernel_rfl
theorem ext_cut (s : ByteArray) (f i : Nat) (hf : f ≤ i) (hi : i < s.size) (h : s[i] = 32) : s.extract f s.size = s.extract f i ++ sp ++ s.extract (i + 1) s.size := ba_ext (by
  have hs : s.size = s.data.toList.length := by simp
  rw [app_data, app_data, ByteArray.data_extract, ByteArray.data_extract, ByteArray.data_extract, Array.toList_extract, Array.toList_extract, Array.toList_extract, List.extract_eq_take_drop, List.extract_eq_take_drop, List.extract_eq_take_drop]
  have e : s.data.toList.drop f = (s.data.toList.drop f).take (i - f) ++ 32 :: s.data.toList.drop (i + 1) := by
    conv => lhs; rw [← List.take_append_drop (i - f) (s.data.toList.drop f)]
    rw [List.drop_drop, show f + (i - f) = i from by omega, List.drop_eq_getElem_cons (by omega : i < s.data.toList.length), show s.data.toList[i]'(by omega) = 32 from h]
  rw [List.take_of_length_le (l := s.data.toList.drop f) (i := s.size - f) (by rw [List.length_drop]; omega), List.take_of_length_le (l := s.data.toList.drop (i + 1)) (i := s.size - (i + 1)) (by rw [List.length_drop]; omega), List.append_assoc]
  exact e)
theorem ext_nosp (s : ByteArray) (f i : Nat) (hi : i ≤ s.size) (h : ∀ j (hj : j < s.size), f ≤ j → j < i → s[j] ≠ 32) : (32 : UInt8) ∉ (s.extract f i).data.toList := by
  intro hm
  rw [ByteArray.data_extract, Array.toList_extract, List.extract_eq_take_drop] at hm
  obtain ⟨j, hj, he⟩ := List.getElem_of_mem hm
  have hs : s.size = s.data.toList.length := by simp
  rw [List.length_take, List.length_drop] at hj
  rw [List.getElem_take, List.getElem_drop] at he
  exact h (f + j) (by omega) (by omega) (by omega) he
/-- How far the words are cut. -/
structure Cuts (s : ByteArray) (most : Nat) (acc : List ByteArray) (f i : Nat) : Prop where
  fi : f ≤ i
  is : i ≤ s.size
  len : acc.length + 1 ≤ most
  said : Lib.splitB sp 0 (most - 1) s = acc ++ Lib.splitB sp 0 (most - 1 - acc.length) (s.extract f s.size)
  no : ∀ j (hj : j < s.size), f ≤ j → j < i → s[j] ≠ 32
theorem Cuts.start (s : ByteArray) (most : Nat) (h : 1 ≤ most) : Cuts s most [] 0 0 :=
  ⟨Nat.le_refl _, Nat.zero_le _, by simpa using h, by simp, fun j _ _ h => by omega⟩
theorem Cuts.cut {s : ByteArray} {most f i : Nat} {acc : List ByteArray} (h : Cuts s most acc f i) (hi : i < s.size) (hc : s[i] = 32) (hl : acc.length + 1 < most) : Cuts s most (acc ++ [s.extract f i]) (i + 1) (i + 1) :=
  ⟨Nat.le_refl _, by omega, by rw [List.length_append, List.length_singleton]; omega, by
    rw [h.said, ext_cut s f i h.fi hi hc, show most - 1 - acc.length = (most - 1 - (acc ++ [s.extract f i]).length) + 1 from by rw [List.length_append, List.length_singleton]; omega,
      split_hit _ _ _ (ext_nosp s f i (by omega) h.no), List.append_assoc]; rfl, fun j _ h1 h2 => by omega⟩
theorem Cuts.on {s : ByteArray} {most f i : Nat} {acc : List ByteArray} (h : Cuts s most acc f i) (hi : i < s.size) (hc : s[i] ≠ 32) : Cuts s most acc f (i + 1) :=
  ⟨by have := h.fi; omega, by omega, h.len, h.said, fun j hj h1 h2 => by
    rcases Nat.lt_or_ge j i with h3 | h3
    · exact h.no j hj h1 h3
    · obtain rfl : j = i := by omega
      exact hc⟩
end Go.Proofs.YtagcmjmcjpjihaaGreatDoor
namespace Go.Proofs.YtagcmjmcjpjihaaGreatDoor
open Go.RowKit
/-- What stands in a queue's row. -/
def QRow (s : ByteArray) (a b : Nat) (d : ByteArray) : Prop := s = rowS a b d ∧ a ≤ 999999 ∧ 1 ≤ b ∧ b ≤ 9 ∧ (d.size = 0 ∨ NameOk d)
def MRow (s : ByteArray) (a b : Nat) (d : ByteArray) : Prop := s = rowS a b d ∧ a ≤ 9 ∧ b ≤ 2000000 ∧ d.size ≤ 28
end Go.Proofs.YtagcmjmcjpjihaaGreatDoor
namespace Go.Proofs.YtagcmjmcjpjihaaGreatDoor
open Go.RowKit
end Go.Proofs.YtagcmjmcjpjihaaGreatDoor
namespace Go.Proofs.YtagcmjmcjpjihaaGreatDoor
open Go.RowKit
end Go.Proofs.YtagcmjmcjpjihaaGreatDoor
namespace Go.Proofs.YtagcmjmcjpjihaaGreatDoor
open Go.RowKit
end Go.Proofs.YtagcmjmcjpjihaaGreatDoor
namespace Go.Proofs.YtagcmjmcjpjihaaGreatDoor
open Go.RowKit
/-- A queue: the number of the next message, tries, where it goes then. -/
structure Qu where
  next : Int
  tries : Int
  dead : ByteArray
/-- A message: its number, tries, until, body. -/
structure Ms where
  num : Int
  tries : Int
  until_ : Int
  body : ByteArray
def Qu.v (q : Qu) : Value := .agg #[.int .i64 q.next, .int .i64 q.tries, .string q.dead]
def Ms.v (m : Ms) : Value := .agg #[.int .i64 m.num, .int .i64 m.tries, .int .i64 m.until_, .string m.body]
def Qu.z : Qu := ⟨0, 0, ⟨#[]⟩⟩
def Ms.z : Ms := ⟨0, 0, 0, ⟨#[]⟩⟩
def Qu.bad (q : Qu) : Prop := q.next < 0 ∨ 999999 < q.next ∨ q.tries < 1 ∨ 9 < q.tries
instance (q : Qu) : Decidable q.bad := by unfold Qu.bad; infer_instance
def Qu.named (q : Qu) : Prop := q.dead.size = 0 ∨ NameOk q.dead
instance (q : Qu) : Decidable q.named := by unfold Qu.named; infer_instance
def Ms.bad (m : Ms) : Prop := m.tries < 0 ∨ 9 < m.tries ∨ m.until_ < 0 ∨ 2000000 < m.until_ ∨ 28 < m.body.size
instance (m : Ms) : Decidable m.bad := by unfold Ms.bad; infer_instance
def Qu.txt (q : Qu) : ByteArray × Nat := if q.bad then (⟨#[]⟩, 1) else if q.named then (rowS q.next.toNat q.tries.toNat q.dead, 0) else (⟨#[]⟩, 3)
def Ms.txt (m : Ms) : ByteArray × Nat := if m.bad then (⟨#[]⟩, 1) else (rowS m.tries.toNat m.until_.toNat m.body, 0)
open Classical in
noncomputable def quOf (s : ByteArray) : Qu × Nat := if h : ∃ x : Nat × Nat × ByteArray, QRow s x.1 x.2.1 x.2.2 then (⟨(h.choose.1 : Int), (h.choose.2.1 : Int), h.choose.2.2⟩, 0) else (Qu.z, 4)
open Classical in
noncomputable def msOf (n : Int) (s : ByteArray) : Ms × Nat := if h : ∃ x : Nat × Nat × ByteArray, MRow s x.1 x.2.1 x.2.2 then (⟨n, (h.choose.1 : Int), (h.choose.2.1 : Int), h.choose.2.2⟩, 0) else (Ms.z, 4)
/-- What was read of a text may be a queue's. -/
def Qu.ok (q : Qu) : Prop := ¬ q.bad ∧ q.named
theorem quOf_cases (s : ByteArray) : (∃ q : Qu, quOf s = (q, 0) ∧ q.ok ∧ q.dead.size ≤ 6 ∧ ∃ a b : Nat, q.next = a ∧ q.tries = b ∧ QRow s a b q.dead) ∨ (quOf s = (Qu.z, 4) ∧ ¬ ∃ a b d, QRow s a b d) := by
  unfold quOf
  by_cases h : ∃ x : Nat × Nat × ByteArray, QRow s x.1 x.2.1 x.2.2
  · rw [dif_pos h]
    have h2 := h.choose_spec
    refine .inl ⟨_, rfl, ⟨?_, h2.2.2.2.2⟩, ?_, _, _, rfl, rfl, h2⟩
    · have h3 := h2.2.1
      have h4 := h2.2.2.1
      have h5 := h2.2.2.2.1
      unfold Qu.bad
      dsimp only
      omega
    · rcases h2.2.2.2.2 with h3 | h3
      · dsimp only; omega
      · exact h3.2.1
  · rw [dif_neg h]
    exact .inr ⟨rfl, fun ⟨a, b, d, hq⟩ => h ⟨(a, b, d), hq⟩⟩
theorem msOf_cases (n : Int) (s : ByteArray) : (∃ m : Ms, msOf n s = (m, 0) ∧ m.num = n ∧ ¬ m.bad ∧ ∃ a b : Nat, m.tries = a ∧ m.until_ = b ∧ MRow s a b m.body) ∨ (msOf n s = (Ms.z, 4) ∧ ¬ ∃ a b d, MRow s a b d) := by
  unfold msOf
  by_cases h : ∃ x : Nat × Nat × ByteArray, MRow s x.1 x.2.1 x.2.2
  · rw [dif_pos h]
    have h2 := h.choose_spec
    refine .inl ⟨_, rfl, rfl, ?_, _, _, rfl, rfl, h2⟩
    have h3 := h2.2.1
    have h4 := h2.2.2.1
    have h5 := h2.2.2.2
    unfold Ms.bad
    dsimp only
    omega
  · rw [dif_neg h]
    exact .inr ⟨rfl, fun ⟨a, b, d, hq⟩ => h ⟨(a, b, d), hq⟩⟩
theorem Qu.txt_le (q : Qu) : q.txt.2 ≤ 3 := by unfold Qu.txt; split; omega; split <;> simp
theorem Ms.txt_le (m : Ms) : m.txt.2 ≤ 3 := by unfold Ms.txt; split <;> simp
theorem quOf_le (s : ByteArray) : (quOf s).2 ≤ 4 := by rcases quOf_cases s with ⟨q, h, _⟩ | ⟨h, _⟩ <;> rw [h] <;> simp
theorem msOf_le (n : Int) (s : ByteArray) : (msOf n s).2 ≤ 4 := by rcases msOf_cases n s with ⟨q, h, _⟩ | ⟨h, _⟩ <;> rw [h] <;> simp
end Go.Proofs.YtagcmjmcjpjihaaGreatDoor
