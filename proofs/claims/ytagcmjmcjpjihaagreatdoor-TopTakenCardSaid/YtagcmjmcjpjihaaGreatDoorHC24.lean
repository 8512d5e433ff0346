/- Texts Srt of this claim, laid together. -/
import Derived.Test.YtagcmjmcjpjihaaGreatDoorHC17
import Derived.Shelf.SlSortCmp.WholeK
set_option linter.unusedVariables false
set_option linter.unusedSimpArgs false
namespace Go.Proofs.YtagcmjmcjpjihaaGreatDoor
open Go.RowKit Go.Sort
theorem zIy {α:Type} [Inhabited α] (enc:α→List Value) (k:Nat) (hk:∀x,(enc x).length=k) (h0:0<k) (d:Array α):(flatK enc k d).toList=d.toList.flatMap enc:=by
 have hl:(d.toList.flatMap enc).length=d.size*k:=by rw [zEz enc k hk];simp
 apply List.ext_getElem?;intro t;by_cases ht:t<d.size*k
 ·have hq:t / k<d.size:=Nat.div_lt_of_lt_mul (by rwa [Nat.mul_comm]);have hm:t % k<k:=Nat.mod_lt _ h0;have e:t / k*k+t % k=t:=Nat.div_add_mod' t k;have h1:=zAj enc k hk d.toList (t / k) (by simpa using hq) (t % k) hm;rw [e] at h1;rw [h1,Array.getElem?_toList,Array.getElem?_eq_getElem (by rw [size_flatK];exact ht),←getElem!_pos (flatK enc k d) t (by rw [size_flatK];exact ht),get_flatK enc k d t ht];rw [getElem!_pos d _ hq,List.getElem?_eq_getElem (by rw [hk];exact hm),←getElem!_pos _ (t % k) (by rw [hk];exact hm),Array.getElem_toList]
 ·rw [List.getElem?_eq_none (by simp;omega),List.getElem?_eq_none (by omega)]
section
variable {S:Nat→Prop} {W w:World} {l l0:List Rs}
theorem Own.sorted {α:Type} [Inhabited α] {e:TypeId} {k n cap g m:Nat} {xs:List Value} {enc:α→List Value} {d':Array α} {os:Array Obj} (hO:Own S W w l) (hp:Pick l (Row2 e k (some ⟨g,0,none⟩) n cap xs) l0) (hk:∀x,(enc x).length=k) (h0:0<k) (hs:d'.size=n) :
 Own S W (sortWorldK enc k w g 0 m d' os) (Row2 e k (some ⟨g,0,none⟩) n cap (d'.toList.flatMap enc)::l0):=by
 obtain ⟨M,Z,⟨h2,h3⟩,h4,_,kk⟩:=(hO.pick hp).turn1;have hg:M g:=h3 g rfl;rcases h2.2 with ⟨hv,_⟩ | ⟨g',c,cur,hv,hb,hgg,hnc,hcm,hcs,ht⟩
 ·cases hv
 injection hv with q1 q2 q3
 injection q1 with q1
 injection q1 with q1
 subst q1;subst q3;have hsz:(flatK enc k d').size=n*k:=by rw [size_flatK,hs]
 have hnk:n*k≤cap*k:=Nat.mul_le_mul_right _ hnc;have hlt:g<w.heap.size:=(Array.getElem?_eq_some_iff.1 hgg).1;have hat:(sortWorldK enc k w g 0 m d' os).heap[g]?=some (.cells (putCells id 0 (flatK enc k d') cur) e (0,0)):=by
  unfold sortWorldK grow putRowK putRow mapBlock Sort.ahead;simp only;rw [Array.getElem?_append,if_pos (by rw [Array.size_modify];exact hlt),Array.getElem?_modify,if_pos rfl,hgg];rfl
 have hpc:(putCells id 0 (flatK enc k d') cur).size=cur.size:=by unfold putCells;simp
 refine kk _ _ M ⟨rfl,rfl,rfl,by unfold sortWorldK grow putRowK putRow mapBlock Sort.ahead;simp,fun b hb hM=>?_⟩ (fun b h=>.inl h) (fun b hb=>?_) ⟨⟨?_,.inr ⟨g,cap,putCells id 0 (flatK enc k d') cur,rfl,hb,hat,hnc,hcm,by rw [hpc];exact hcs,?_⟩⟩,h3⟩
 ·have hne:g≠b:=fun he=>hM (he ▸ hg)
  unfold sortWorldK grow putRowK putRow mapBlock Sort.ahead;simp only;rw [Array.getElem?_append,if_pos (by rw [Array.size_modify];exact hb),Array.getElem?_modify,if_neg hne]
 ·have:=(h4 b hb).1;unfold sortWorldK grow putRowK putRow mapBlock Sort.ahead;simp;omega
 ·rw [zEz enc k hk];simp [hs]
 ·rw [←zIy enc k hk h0 d'];apply List.ext_getElem?;intro t;rw [List.getElem?_take];by_cases htn:t<n*k
  ·rw [if_pos htn,Array.getElem?_toList,Array.getElem?_toList,Array.getElem?_eq_getElem (i:=t) (by rw [hpc,hcs];omega),Array.getElem?_eq_getElem (i:=t) (by rw [hsz];exact htn)];unfold putCells;rw [Array.getElem_mapIdx,if_pos ⟨Nat.zero_le _,by rw [hsz,Nat.zero_add];exact htn⟩];rw [Nat.sub_zero,getElem!_pos (flatK enc k d') t (by rw [hsz];exact htn)];rfl
  ·rw [if_neg htn,List.getElem?_eq_none (by simp [hs];omega)]
theorem zHT {α:Type} [Inhabited α] {enc:α→List Value} {k g:Nat} {d:Array α} (h:ValsAt w (some ⟨g,0,none⟩) (d.toList.flatMap enc)) (hf:∀j,w.frozen? ⟨g,j,none⟩=false) (hk:∀x,(enc x).length=k) (h0:0<k):HoldsK enc k w g 0 d:=by
 intro j hj;have h1:(d.toList.flatMap enc)[j]?=some (flatK enc k d)[j]!:=by
  rw [←zIy enc k hk h0 d,Array.getElem?_toList,Array.getElem?_eq_getElem hj,getElem!_pos _ j hj]
 exact ⟨zBb h j _ h1,hf _⟩
end
