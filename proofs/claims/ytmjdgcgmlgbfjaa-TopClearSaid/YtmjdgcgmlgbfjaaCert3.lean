/- Package certify: its contracts in terms of what a call has in hand; laws of what is clear. -/
import Derived.Test.YtmjdgcgmlgbfjaaMore
import Derived.Test.YtmjdgcgmlgbfjaaCertify2
import Derived.Test.YtmjdgcgmlgbfjaaActs
set_option linter.unusedVariables false
set_option linter.unusedSimpArgs false
namespace Go.Proofs.Ytmjdgcgmlgbfjaa
open Go.RowKit
def HistR (p : Nat) (st : List (Int × List ByteArray)) : Rs := .ofRes (Hist p st)
theorem Own.toHist {S : Nat → Prop} {W w : World} {l : List Rs} {p : Nat} (h : Own S W w (Var p [.slice none 0 0] 39 :: l)) : Own S W w (HistR p [] :: l) :=
  h.map1 (r := Var p [.slice none 0 0] 39) (r' := HistR p []) fun w M Z ⟨h1, h2⟩ => ⟨fun b => b = p, ⟨.slice none 0 0, [], fun _ => False, h1, World.ownsRow_nil _ 0 _ _, by simp [Value.ownBlock]⟩, fun b hb => by rw [hb]; exact h2⟩
theorem Own.oneChange {S : Nat → Prop} {W w : World} {l : List Rs} {b : Nat} {k v : ByteArray} {g : Bool} {t : TypeId} (h : Own S W w (Var b [.string k, .string v, .bool g] t :: l)) : Own S W w (.imm (fun w => ChangesAt w (some ⟨b, 0, none⟩) [⟨k, v, g⟩]) :: l) :=
  h.toImm (r := Var b [.string k, .string v, .bool g] t) fun w hf => .inr ⟨b, 0, rfl, fun i hi => by
    have : i = 0 := by simpa using hi
    subst this
    exact ⟨hf.1.1, hf.1.2.1, hf.1.2.2⟩⟩
theorem Own.oneSpan {S : Nat → Prop} {W w : World} {l : List Rs} {b : Nat} {k v : ByteArray} {t : TypeId} (h : Own S W w (Var b [.string k, .string v] t :: l)) : Own S W w (.imm (fun w => SpansAt w (some ⟨b, 0, none⟩) [⟨k, v⟩]) :: l) :=
  h.toImm (r := Var b [.string k, .string v] t) fun w hf => .inr ⟨b, 0, rfl, fun i hi => by
    have : i = 0 := by simpa using hi
    subst this
    exact ⟨hf.1.1, hf.1.2⟩⟩
theorem note_does (p : Nat) (st : List (Int × List ByteArray)) (n : Int) (a : Option Addr) (cap : Nat) (l : List Ch) (hl : l.length ≤ 1000) (hst : st.length ≤ 100000) :
    Does Try.prog 23 #[.pointer (some ⟨p, 0, none⟩), .int .i64 n, .slice a l.length cap] [HistR p st, .imm fun w => ChangesAt w a l] (fun _ : Unit => (.tuple #[], [HistR p (st ++ [(n, keysOf l)]), .imm fun w => ChangesAt w a l])) :=
  does_ofRes fun F w hF hc => note_any p st F n a cap l w hF hl hst hc
theorem forget_does (p : Nat) (st : List (Int × List ByteArray)) (n : Int) (hst : st.length ≤ 100000) :
    Does Try.prog 24 #[.pointer (some ⟨p, 0, none⟩), .int .i64 n] [HistR p st] (fun _ : Unit => (.tuple #[], [HistR p (st.filter fun d => decide (d.1 > n))])) :=
  does_ofRes1 fun F w hF => forget_any p st F n w hF hst
theorem clear_reads (p : Nat) (st : List (Int × List ByteArray)) (a : Option Addr) (cap : Nat) (l : List Sp) (n : Int) (hst : st.length ≤ 100000) (hks : ∀ d ∈ st, d.2.length ≤ 100000) (hl : l.length ≤ maxLen) :
    Reads Try.prog 25 #[.pointer (some ⟨p, 0, none⟩), .slice a l.length cap, .int .i64 n] [HistR p st, .imm fun w => SpansAt w a l] (.bool (clearOf st l n)) :=
  reads_ofRes fun F w hF hc => clear_any p st F a cap l n w hF hst hks hl hc
theorem clear_none (p : Nat) (st : List (Int × List ByteArray)) (n : Int) (hst : st.length ≤ 100000) (hks : ∀ d ∈ st, d.2.length ≤ 100000) :
    Reads Try.prog 25 #[.pointer (some ⟨p, 0, none⟩), .slice none 0 0, .int .i64 n] [HistR p st] (.bool true) :=
  reads_ofRes1 fun F w hF => by
    have := clear_any p st F none 0 [] n w hF hst hks (by simp) (.inl rfl)
    rwa [show clearOf st [] n = true from by simp [clearOf]] at this
/-- Who reads more is less often clear. -/
theorem clear_append (st : List (Int × List ByteArray)) (a b : List Sp) (n : Int) : clearOf st (a ++ b) n = (clearOf st a n && clearOf st b n) := by
  unfold clearOf
  rw [Bool.eq_iff_iff, Bool.and_eq_true]
  simp only [List.all_eq_true, List.any_append, Bool.not_eq_true', Bool.and_eq_false_iff, Bool.or_eq_false_iff]
  constructor
  · intro h
    exact ⟨fun d hd k hk => (h d hd k hk).imp id And.left, fun d hd k hk => (h d hd k hk).imp id And.right⟩
  · rintro ⟨h1, h2⟩ d hd k hk
    rcases h1 d hd k hk with h | h
    · exact .inl h
    · rcases h2 d hd k hk with h' | h'
      · exact .inl h'
      · exact .inr ⟨h, h'⟩
/-- What is forgotten up to where one began changes nothing for it. -/
theorem clear_filter (st : List (Int × List ByteArray)) (a : List Sp) (n : Int) : clearOf (st.filter fun d => decide (d.1 > n)) a n = clearOf st a n := by
  unfold clearOf
  rw [Bool.eq_iff_iff]
  simp only [List.all_eq_true, List.mem_filter, Bool.not_eq_true', Bool.and_eq_false_iff]
  constructor
  · intro h d hd k hk
    by_cases hn : d.1 > n
    · exact h d ⟨hd, by simpa using hn⟩ k hk
    · exact .inl (by simpa using hn)
  · rintro h d ⟨hd, _⟩ k hk
    exact h d hd k hk
def spanC (s : Sp) : List Value := [.string s.lo, .string s.hi]
theorem spans_vals {w : World} {a : Option Addr} {l : List Sp} (h : SpansAt w a l) : ValsAt w a (l.flatMap spanC) := by
  rcases h with rfl | ⟨b, off, rfl, hc⟩
  · exact .inl rfl
  · refine .inr ⟨b, off, rfl, fun i hi => ?_⟩
    have hl : (l.flatMap spanC).length = l.length * 2 := flat_length (f := spanC) (k := 2) (fun _ => rfl) l
    have hlt : i / 2 < l.length := by omega
    have h2 := hc (i / 2) hlt
    rcases Nat.mod_two_eq_zero_or_one i with h | h
    · have e : i = i / 2 * 2 + 0 := by omega
      have h3 := flat_at (f := spanC) (k := 2) (fun _ => rfl) hlt 0 (.string l[i / 2].lo) rfl
      rw [← e] at h3
      rw [List.getElem?_eq_getElem hi] at h3
      rw [show off + i = off + i / 2 * 2 from by omega, h3]
      exact h2.1
    · have e : i = i / 2 * 2 + 1 := by omega
      have h3 := flat_at (f := spanC) (k := 2) (fun _ => rfl) hlt 1 (.string l[i / 2].hi) rfl
      rw [← e] at h3
      rw [List.getElem?_eq_getElem hi] at h3
      rw [show off + i = off + i / 2 * 2 + 1 from by omega, h3]
      exact h2.2
theorem vals_spans {w : World} {a : Option Addr} {l : List Sp} (h : ValsAt w a (l.flatMap spanC)) : SpansAt w a l := by
  have hl : (l.flatMap spanC).length = l.length * 2 := flat_length (f := spanC) (k := 2) (fun _ => rfl) l
  rcases h with h | ⟨b, off, rfl, hc⟩
  · rw [h] at hl
    have h2 : l.length * 2 = 0 := by simpa using hl.symm
    exact .inl (List.length_eq_zero_iff.1 (by omega))
  · refine .inr ⟨b, off, rfl, fun i hi => ?_⟩
    have g : ∀ j v, (l.flatMap spanC)[j]? = some v → w.cell? ⟨b, off + j, none⟩ = some v := fun j v h => by
      obtain ⟨h1, h2⟩ := List.getElem?_eq_some_iff.1 h
      have := hc j h1
      rw [h2] at this
      exact this
    have h0 := g _ _ (flat_at (f := spanC) (k := 2) (fun _ => rfl) hi 0 (.string l[i].lo) rfl)
    have h1 := g _ _ (flat_at (f := spanC) (k := 2) (fun _ => rfl) hi 1 (.string l[i].hi) rfl)
    exact ⟨by simpa using h0, by rw [Nat.add_assoc]; exact h1⟩
theorem Own.rowSpans {S : Nat → Prop} {W w : World} {l : List Rs} {e : TypeId} {size n cap : Nat} {a : Option Addr} {sp : List Sp} (h : Own S W w (Row2 e size a n cap (sp.flatMap spanC) :: l)) : Own S W w (.imm (fun w => SpansAt w a sp) :: l) :=
  h.toImm (r := Row2 e size a n cap (sp.flatMap spanC)) fun w hf => vals_spans hf.1
theorem Try.infoSpan : (Try.prog.info? 23).map (fun i => (i.zero, i.size, i.bytes)) = some (some (.agg #[.string ⟨#[]⟩, .string ⟨#[]⟩]), 2, 32) := by kernel_rfl
end Go.Proofs.Ytmjdgcgmlgbfjaa
