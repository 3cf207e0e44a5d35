import Derived.Test.YtpjehkdneiclnaaCnPu5
import Derived.Test.YtpjehkdneiclnaaCnShT
set_option linter.unusedVariables false
set_option linter.unusedSimpArgs false
namespace Go.Pu
open Go Go.Wc
variable {X:Type} {E:Rp X} {h:Hp} {A:List At} {a:Option Addr} {c:Nat} {l:List X} {z0:X} {z:Value}
theorem clear_cut {nl:Nat} {tl:List X} {K:Sl→Hp→Prop} (I:Inv h (ownS E a nl c (l++tl)::A)) (hz: ∀ h M,E.P h M z.cells.toList z0) (k: ∀ a1 c1 h',Inv h' (ownS E a1 l.length c1 l::A)→K ⟨a1,l.length,c1⟩ h'):
    slW ⟨a,nl,c⟩ (l.length:Int) (nl:Int) E.n fun s=>clW z h s fun h=>slW ⟨a,nl,c⟩ (0:Int) (l.length:Int) E.n fun s=>K s h:=by
  obtain rfl:=own_len I
  have key:=clear_tail (z:=z) (z0:=z0) (K:=fun h'=>slW ⟨a,(l++tl).length,c⟩ (0:Int) (l.length:Int) E.n fun s=>K s h') I hz fun h' I=>by
    have:=sl_own (lo:=0) (hi:=l.length) (K:=fun s=>K s h') I ⟨by omega,by omega,by omega⟩ fun a1 c1 I=>by
      rw [sub_take,Int.toNat_natCast,List.take_length] at I ⊢
      exact k a1 c1 h' I
    exact this
  exact key
def delP {Z:Type} (φ:X→Z→(Bool→Z→Prop)→Prop):List X→List X→Z→(List X→Z→Prop)→Prop
  | [],acc,z,Q=>Q acc z
  | x::l,acc,z,Q=>φ x z fun b z=>delP φ l (if b then acc else acc++[x]) z Q
def sortP (l:List Int) (Q:List Int→Prop):Prop:=Bnd l.length∧Q (l.mergeSort fun x y=>decide (x≤y))
theorem flatI {k:IntKind} {vs:List Value} {l:List Int} {M:List Nat} (H:Els (rI k) h M vs l):vs=l.map (Value.int k):=by
  induction l generalizing vs with
  | nil=>exact H
  | cons x l ih =>
    obtain ⟨u,w,e,h1,h2⟩:=H
    have h1:u=[.int k x]:=h1
    rw [e,h1,ih h2]; rfl
theorem elsI {k:IntKind} {l:List Int} {M:List Nat}:Els (rI k) h M (l.map (Value.int k)) l:=by
  induction l with
  | nil=>rfl
  | cons x l ih=>exact ⟨[.int k x],_,rfl,rfl,ih⟩
theorem sort_r {ρ:Ids} {nl:Nat} {l:List Int} {Q':List Int→Prop} {Q:Hp→Prop} (I:Inv h (ownS (rI .i64) a nl c l::A)) (H:sortP l Q')
    (k: ∀ r h',Inv h' (ownS (rI .i64) a nl c r::A)→Q' r→Q h'):Tx.slices_Sort_int_int ρ ⟨a,nl,c⟩ h Q:=by
  obtain rfl:=own_len I
  obtain ⟨hB,H⟩:=H
  unfold Bnd at hB
  obtain ⟨F,M,⟨_,T,vs,g1,g2⟩,hFM,hnd,hlt,HH⟩:=I.turn
  have ev:=flatI g2
  subst ev
  have g1':=g1
  obtain ⟨o1,o2,o3⟩:=g1
  cases a with
  | none =>
    have hz:l=[]:=by simp only at o2 o3; exact List.length_eq_zero_iff.1 (by omega)
    subst hz
    exact .inl ⟨rfl,k _ _ I (by simpa using H)⟩
  | some x =>
    obtain ⟨b,o,sp⟩:=x
    obtain ⟨hf,hs,pre,post,z,hb,hp,hc,hz⟩:=o3
    simp only at hs hb hp hf hz hc o1 o2; subst hs
    have hlb:b<h.size:=by
      rcases Nat.lt_or_ge b h.size with hh | hh
      · exact hh
      · rw [Array.getElem?_eq_none (by omega)] at hb; cases hb
    refine .inr ⟨b,o,l,pre,post,T,z,rfl,rfl,by omega,hb,hp,by omega,fun os=> ?_⟩
    have hkeep:Keep F h (h.setIfInBounds b (.cells (pre++(l.mergeSort fun x y=>decide (x≤y)).map (Value.int .i64)++post).toArray T z)++os):=by
      rw [hf]
      refine ⟨by simp,fun c hcl hcn=> ?_⟩
      have hne:b ≠ c:=fun e=>hcn (by simp [e])
      rw [Array.getElem?_append_left (by simpa using hcl),Array.getElem?_setIfInBounds_ne hne]
    refine k _ _ (HH _ [_] [F] hkeep (fun b hb=> .inl (by simpa using hb)) (by simpa using hnd) fun M' hL _ _=>⟨⟨by simp,T,(l.mergeSort fun x y=>decide (x≤y)).map (Value.int .i64),⟨by simp [rI],by simpa using o2, ?_⟩,elsI⟩,trivial⟩) H
    refine ⟨hf,rfl,pre,post,z, ?_,hp,by simp at hc ⊢; omega,by simpa using hz⟩
    simp only
    rw [Array.getElem?_append_left (by simpa using hlb),Array.getElem?_setIfInBounds_self_of_lt hlb]
end Go.Pu
