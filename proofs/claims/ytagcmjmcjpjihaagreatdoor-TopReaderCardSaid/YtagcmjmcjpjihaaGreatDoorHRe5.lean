/- Texts Sym, RdL of this claim, laid together. -/
import Derived.Test.YtagcmjmcjpjihaaGreatDoorHC38
set_option linter.unusedVariables false
set_option linter.unusedSimpArgs false
namespace Go.Proofs.YtagcmjmcjpjihaaGreatDoor
open Go.RowKit
theorem zJf {k v:ByteArray} (hk:KeyOk k) (hv:v.size≤40):chN ⟨k,v,false⟩=0:=by
 unfold chN;rw [if_pos hk,if_neg (fun h=>by cases h.1),if_neg (by dsimp only;omega)]
theorem zI3 {R:List Sp} (s:Sp) (h:R.length<40):zAY R s=0:=by
 unfold zAY;split
 ·rfl
 ·rw [if_neg (by omega)]
variable {rows:List Rw} {K:List ByteArray} {D:List Rw} {r:Nat} {C:List Ch} {R:List Sp}
theorem ComOk.others {m B:Nat} {c:Core} {D:Nat→Option (Nat×Dv)} {i:Nat} {x:Dv} {n k:Nat} {c':Core} {D':Nat→Option (Nat×Dv)} (h:ComOk m B c D i x n k c' D') {s:Nat} (hs:i≠s):D' s=D s:=by
 have hn:setF D i .none s=D s:=if_neg (fun e=>hs e.symm);cases h with
 | none h1=>exact hn
 | late h1 h2=>exact hn
 | full h1 h2 h3 h4=>rfl
 | done d h R0 W0 u h1 h2 h3 h4 h5=>exact hn
 | down c' h1 h2 h3 h4=>rfl
theorem PStep.other {m B:Nat} {p p':PS} {a:Ac} (h:PStep m B p a p') {s:Nat} (hs:a.ses≠s):p'.D s=p.D s:=by
 have hn:∀(D:Nat→Option (Nat×Dv)) o,setF D a.ses o s=D s:=fun D o=>if_neg (fun e=>hs e.symm)
 cases h with
 | beg q k1 k2=>exact hn _ _
 | same=>rfl
 | com x n c' D' k1 k2 k3=>exact k3.others hs
 | comno x n k c' D' k1 k2 k3 k4 k5=>exact k5.others hs
 | ab x k1 k2=>exact hn _ _
 | vac k1=>rfl
 | save c' k1 k2=>rfl
 | told x res k2 k3=>exact hn _ _
theorem ComOk.past {m B:Nat} {c:Core} {D:Nat→Option (Nat×Dv)} {i:Nat} {x:Dv} {n k:Nat} {c':Core} {D':Nat→Option (Nat×Dv)} (h:ComOk m B c D i x n k c' D') (H:CoreOk m B c) (hk:k≠10):c.nn≤c'.nn∧∀j,j≤c.nn→c'.at j=c.at j:=by
 cases h with
 | none h1=>exact ⟨Nat.le_refl _,fun _ _=>rfl⟩
 | late h1 h2=>exact ⟨Nat.le_refl _,fun _ _=>rfl⟩
 | full h1 h2 h3 h4=>exact ⟨Nat.le_refl _,fun _ _=>rfl⟩
 | done d h R0 W0 u h1 h2 h3 h4 h5=>exact ⟨Nat.le_succ _,fun j hj=>H.comLe _ _ _ _ _ _ _ hj⟩
 | down c' h1 h2 h3 h4=>exact absurd rfl hk
theorem PStep.past {m B:Nat} {p p':PS} {a:Ac} (h:PStep m B p a p') (H:CoreOk m B p.c):p.c.nn≤p'.c.nn∧∀j,j≤p.c.nn→p'.c.at j=p.c.at j:=by
 cases h with
 | beg q k1 k2=>exact ⟨Nat.le_refl _,fun _ _=>rfl⟩
 | same=>exact ⟨Nat.le_refl _,fun _ _=>rfl⟩
 | com x n c' D' k1 k2 k3=>exact k3.past H (by omega)
 | comno x n k c' D' k1 k2 k3 k4 k5=>exact k5.past H k4
 | ab x k1 k2=>exact ⟨Nat.le_refl _,fun _ _=>rfl⟩
 | vac k1=>exact ⟨Nat.le_refl _,fun _ _=>rfl⟩
 | save c' k1 k2=>
  obtain ⟨d,hd,R0,W0,u,rfl,_⟩:=k2;exact ⟨Nat.le_refl _,fun _ _=>rfl⟩
 | told x res k2 k3=>exact ⟨Nat.le_refl _,fun _ _=>rfl⟩
theorem PRun.past {m B:Nat} {p q:PS} {l:List Ac} (h:PRun m B p l q) (H:PSOk m B p) (hB:B+l.length≤1000):p.c.nn≤q.c.nn∧∀j,j≤p.c.nn→q.c.at j=p.c.at j:=by
 induction h with
 | nil=>exact ⟨Nat.le_refl _,fun _ _=>rfl⟩
 | snoc a h1 h2 ih=>
  rw [List.length_append,List.length_singleton] at hB;obtain ⟨g2,g3⟩:=ih (by omega);obtain ⟨k2,k3⟩:=h2.past (h1.ok H (by omega)).c;exact ⟨Nat.le_trans g2 k2,fun j hj=>(k3 j (by omega)).trans (g3 j hj)⟩
theorem PRun.others {m B:Nat} {p q:PS} {l:List Ac} (h:PRun m B p l q) (H:PSOk m B p) (hB:B+l.length≤1000) {s:Nat} (hs:∀a∈l,a.ses≠s):q.D s=p.D s∧p.c.nn≤q.c.nn∧∀j,j≤p.c.nn→q.c.at j=p.c.at j:=by
 refine ⟨?_,h.past H hB⟩;clear H hB
 induction h with
 | nil=>rfl
 | snoc a h1 h2 ih=>exact (h2.other (hs a (by simp))).trans (ih fun x hx=>hs x (List.mem_append_left _ hx))
def PLen (K:Nat) (p:PS):Prop:=(∀i,(p.N i).length≤K)∧∀d∈p.out,d.acts.length≤K
theorem PStep.len {m B K:Nat} {p p':PS} {a:Ac} (h:PStep m B p a p') (hl:PLen K p):PLen (K+1) p':=by
 have h0:PLen (K+1) p:=⟨fun i=>Nat.le_succ_of_le (hl.1 i),fun d hd=>Nat.le_succ_of_le (hl.2 d hd)⟩
 cases h with
 | beg q k1 k2=>
  refine ⟨fun i=>?_,h0.2⟩;show (zBg p.N a.ses [] i).length≤_;unfold zBg;split
  ·exact Nat.zero_le _
  ·exact h0.1 i
 | same=>exact h0
 | com x n c' D' k1 k2 k3=>
  refine ⟨h0.1,fun d hd=>?_⟩;rcases List.mem_append.1 hd with h5 | h5
  ·exact h0.2 d h5
  ·rw [List.mem_singleton.1 h5];exact h0.1 _
 | comno x n k c' D' k1 k2 k3 k4 k5=>exact h0
 | ab x k1 k2=>exact h0
 | vac k1=>exact h0
 | save c' k1 k2=>exact h0
 | told x res k2 k3=>
  refine ⟨fun i=>?_,h0.2⟩;show (zBg p.N a.ses (p.N a.ses++[_]) i).length≤_;unfold zBg;split
  ·rw [List.length_append,List.length_singleton];exact Nat.succ_le_succ (hl.1 _)
  ·exact h0.1 i
theorem PRun.len {m B K:Nat} {p q:PS} {l:List Ac} (h:PRun m B p l q) (hl:PLen K p):PLen (K+l.length) q:=by
 induction h with
 | nil=>exact hl
 | snoc a h1 h2 ih=>rw [List.length_append,List.length_singleton];exact h2.len ih
