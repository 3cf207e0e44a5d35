import Derived.Test.YtkgbogibfogjgaaGreatDoorTiA
import Derived.MapKept
set_option linter.unusedVariables false
set_option linter.unusedSimpArgs false
set_option maxHeartbeats 4000000
set_option maxRecDepth 100000
namespace Go.Pu
open Go Go.Wc
variable {X:Type} {E:Rp X} {h h':Hp} {M M':List Nat} {vs ws:List Value} {l m:List X} {A:List At} {a a2:Option Addr} {c c2 T n:Nat} {a':At} {k:IntKind} {p:Addr} {ss:List Seg}
def VAdr (p:Addr) (off:Nat) (i:Int) (q:Addr):Prop:=q=(p.add off).add (i.toNat*1)
theorem fU {i:Int} {off j:Nat} {v:Vector Int n} {K':Int->Prop} {K:Addr->Prop} (I:Inv h (blk p T ss::A)) (hv:segAt ss j 0=some (off, .vec k n v)) (H:ixP v.toList i K')
  (kk: ∀ q x,VAdr p off i q->(0<=i/\i<n)->hcell h q=some (.int k x)->K' x->K q):ixW (some (p.add off)) n i 1 K:=by
 have hb:=qJ H;obtain ⟨h0,x,hx,hK⟩:=H;simp only [Vector.length_toList] at hb;refine ⟨_,rfl,hb,kk _ x rfl hb ?_ hK⟩;have:=I.lump j off hv i.toNat (by omega);rw [Nat.mul_one,this];simp [List.getD_eq_getElem?_getD,hx]
theorem nj {ss:List Seg} {i off acc:Nat} {s t:Seg} (h:segAt ss i acc=some (off,s)) (hs:s.size=t.size):segSize ((ss.set i t).take i)=segSize (ss.take i)/\i<ss.length:=by
 obtain ⟨h1,_⟩:=dr h
 have hil:i<ss.length:=by have:=congrArg List.length h1;simp at this; omega
 refine ⟨?_,hil⟩;rw [List.take_set,List.set_eq_of_length_le (by simp; omega)]
theorem IK {v:Vector Int n} {i:Nat} {x:Int} (hi:i<n):lumpV k n (v.setIfInBounds i x).toList=(lumpV k n v.toList).take i++ .int k x::(lumpV k n v.toList).drop (i+1):=by
 rw [dZ,dZ];have:(v.setIfInBounds i x).toList=v.toList.set i x:=by simp [Vector.toList]
 rw [this,List.set_eq_take_append_cons_drop,if_pos (by simpa using hi)];simp
theorem ou {i:Int} {off j:Nat} {v:Vector Int n} {x:Int} {q:Addr} {K:Hp->Prop} (I:Inv h (blk p T ss::A)) (hv:segAt ss j 0=some (off, .vec k n v)) (hq:VAdr p off i q) (hb:0<=i/\i<n)
  (kk: ∀ h',Inv h' (blk p T (ss.set j (.vec k n (v.setIfInBounds i.toNat x)))::A)->K h'):st h (q.add 0) (.int k x) K:=by
 have hi:i.toNat<n:=by omega
 obtain ⟨F,M,⟨hF,h0,h1,hb⟩,hFM,hn,hlt,H⟩:=I.turn;obtain ⟨e1,e2⟩:=dr hv;obtain ⟨_,hil⟩:=nj (t:= .vec k n v) hv rfl;subst hq;rw [add_add,add_add,add_eq h0 h1,Nat.mul_one,Nat.add_zero];have hl:(lumpV k n v.toList).length=n:=cm _ _ _
 have hsp:lumpV k n v.toList=(lumpV k n v.toList).take i.toNat++(lumpV k n v.toList)[i.toNat]'(by omega)::(lumpV k n v.toList).drop (i.toNat+1):=by rw [<- List.drop_eq_getElem_cons (by omega),List.take_append_drop]
 refine zH (T:=T) (z:=(0,0)) (pre:=segs (ss.take j)++(lumpV k n v.toList).take i.toNat) (post:=(lumpV k n v.toList).drop (i.toNat+1)++segs (ss.drop (j+1))) (u:=(lumpV k n v.toList)[i.toNat]'(by omega)) ?_
  (by rw [List.length_append,cD,List.length_take,hl]; omega) (.inr (Nat.zero_le _)) fun h' hb' k' hs'=> ?_
 ·rw [hb]
  congr 2
  have:segs ss=segs (ss.take j)++(lumpV k n v.toList++segs (ss.drop (j+1))):=by
   conv=>lhs; rw [e1,cv]
   rfl
  rw [this]
  conv=>lhs; rw [hsp]
  simp only [List.append_assoc,List.cons_append]
 ·refine kk h' (H h' [_] [[p.block]] (by rw [hF]; exact k') (fun b hb=> .inl (by rw [hF]; simpa using hb)) (by simp) fun M' _ _ _=>⟨⟨rfl,h0,h1, ?_⟩,trivial⟩)
  rw [hb',List.set_eq_take_append_cons_drop,if_pos hil,cv];simp only [segs,Seg.cells,IK hi,List.append_assoc,List.cons_append]
theorem D6 {off j:Nat} {v:Vector Int n} (hv:segAt ss j 0=some (off, .vec k n v)):Rd (rI k) (blk p T ss) (some (p.add off)) n n v.toList:=by
 intro h F M ⟨hF,h0,h1,hb⟩;refine ⟨by simp, ?_⟩;obtain ⟨e1,e2⟩:=dr hv;refine ⟨v.toList.map (Value.int k),⟨by simp, ?_⟩,by simp,pg.2 rfl⟩;rw [add_eq h0 h1];refine ⟨fun _=>rfl,fun i hi=> ?_⟩;have hi:i<n:=by simpa using hi
 rw [dQ hb,e1,cv,e2,Nat.zero_add];simp only [segs,Seg.cells,List.getElem?_toArray];rw [List.getElem?_append_right (by rw [cD]; omega),cD,Nat.add_sub_cancel_left,List.getElem?_append_left (by rw [cm]; exact hi),dZ];rw [List.getElem?_eq_getElem]
def toV (n:Nat) (l:List Int):Vector Int n:=⟨(nrm n l).toArray,by simp [mu]⟩
@[simp] theorem zK (n:Nat) (l:List Int):(toV n l).toList=nrm n l:=by simp [toV,Vector.toList]
theorem zL {l:List Int} (h:l.length=n):(toV n l).toList=l:=by rw [zK,kH h]
@[simp] theorem aem (v:Vector Int n):toV n v.toList=v:=by apply Vector.toArray_inj.1;show (nrm n v.toList).toArray=v.toArray;rw [eV]; simp [Vector.toList]
def cpV (v:Vector Int n) (lo:Nat) (m:List Int):Vector Int n:=toV n (v.toList.take lo++cpL (v.toList.drop lo) m)
theorem zM (v:Vector Int n) (lo:Nat) (m:List Int):(cpV v lo m).toList=v.toList.take lo++cpL (v.toList.drop lo) m:=
 zL (by rw [List.length_append,mE,<- List.length_append,List.take_append_drop]; simp)
def VSl (p:Addr) (off n:Nat) (lo:Int) (a:Option Addr) (c:Nat):Prop:=a=resl (some (p.add off)) n 1 lo/\c=n - lo.toNat
theorem ua {v:Vector Int n} {ws:List Int} {lo:Nat} (h:lo+ws.length<=n):
  lumpV k n (toV n (v.toList.take lo++(ws++v.toList.drop (lo+ws.length)))).toList=(lumpV k n v.toList).take lo++(ws.map (Value.int k)++(lumpV k n v.toList).drop (lo+ws.length)):=by
 rw [dZ,zL (by simp; omega),dZ];simp
theorem Mi {off j:Nat} {v:Vector Int n} {lo:Int} {a1:Option Addr} {c1 len nm:Nat} {m:List Int} {K:Int->Hp->Prop} (hv:segAt ss j 0=some (off, .vec k n v)) (hs:VSl p off n lo a1 c1) (h0:0<=lo/\lo<=n) (hlen:len=n - lo.toNat)
  (hX:Rd (rI k) a' a2 nm c2 m) (I:Inv h (blk p T ss::a'::A))
  (kk: ∀ h',Inv h' (blk p T (ss.set j (.vec k n (cpV v lo.toNat m)))::a'::A)->K (min nm len:Nat) h'):cpW 1 h ⟨a1,len,c1⟩ ⟨a2,nm,c2⟩ K:=by
 obtain rfl:=fB hX I.swap;obtain ⟨F,M,⟨F1,F2,eF,⟨hF,p0,p1,hb⟩,h3⟩,hFM,hnd,hlt,H⟩:=I.sepI.turn;subst eF;obtain ⟨_,us,g1,g2,g3⟩:=hX h3;obtain rfl:=pg.1 g3;obtain ⟨e1,e2⟩:=dr hv;obtain ⟨_,hil⟩:=nj (t:= .vec k n v) hv rfl;obtain ⟨rfl,rfl⟩:=hs;have hl:(lumpV k n v.toList).length=n:=cm _ _ _
 let w:=m.take (min m.length len)
 have hw:w.length=min m.length len:=by simp only [w,List.length_take]; omega
 have hbnd:lo.toNat+w.length<=n:=by omega
 refine ⟨w.map (Value.int k), ?_, ?_⟩
 ·have:=(g1.take (i:=min m.length len) (Nat.min_le_left _ _) c2).cellsAt
  simpa [w,List.map_take] using this
 have ecp:cpV v lo.toNat m=toV n (v.toList.take lo.toNat++(w++v.toList.drop (lo.toNat+w.length))):=by
  unfold cpV cpL;have hdl:(v.toList.drop lo.toNat).length=len:=by simp; omega
  rw [hdl,List.drop_drop]
  have q1:m.take len=w:=by simp only [w]; rw [List.take_eq_take_iff]; omega
  have q2:v.toList.drop (lo.toNat+m.length)=v.toList.drop (lo.toNat+w.length):=by
   rw [hw];rcases Nat.le_total m.length len with h | h
   ·rw [Nat.min_eq_left h]
   ·rw [Nat.min_eq_right h,List.drop_eq_nil_of_le (by simp; omega),List.drop_eq_nil_of_le (by simp; omega)]
  rw [q1,q2]
 have fin: ∀ h',h'[p.block]? =some (.cells (segs (ss.set j (.vec k n (cpV v lo.toNat m)))).toArray T (0,0))->Keep [p.block] h h'->K (min m.length len:Nat) h':=by intro h' hb' hk;obtain ⟨d1,d2,d3⟩:=List.nodup_append.1 hnd;have KT:=a'.lt h3;refine kk h' (H h' [_,a'] [F1,F2] (hk.mono fun b hb=> .inl (by rw [hF]; simp at hb |-; exact .inl hb)) (fun b hb=> .inl (by rw [pn] at hb; exact hb)) (by rw [pn]; exact hnd) fun M' hL _ _=>⟨⟨hF,p0,p1,hb'⟩,a'.mono (fun b hb=>hk.2 b (KT b hb) fun e=> ?_) hL h3,trivial⟩);simp at e; subst e;exact d3 p.block (by rw [hF]; simp) p.block hb rfl
 have hcells:segs ss=segs (ss.take j)++(lumpV k n v.toList++segs (ss.drop (j+1))):=by
  conv=>lhs; rw [e1,cv]
  rfl
 have hsplit:lumpV k n v.toList=(lumpV k n v.toList).take lo.toNat++(((lumpV k n v.toList).drop lo.toNat).take w.length++(lumpV k n v.toList).drop (lo.toNat+w.length)):=by rw [<- List.drop_drop,List.take_append_drop,List.take_append_drop]
 have hres:segs (ss.set j (.vec k n (cpV v lo.toNat m)))=segs (ss.take j)++((lumpV k n v.toList).take lo.toNat++(w.map (Value.int k)++(lumpV k n v.toList).drop (lo.toNat+w.length))++segs (ss.drop (j+1))):=by rw [List.set_eq_take_append_cons_drop,if_pos hil,cv];simp only [segs,Seg.cells];rw [ecp,ua hbnd]
 have go:stAll h ⟨p.block,off+lo.toNat,none⟩ 0 (w.map (Value.int k)) fun h'=>K (min m.length len:Nat) h':=by
  refine gy (T:=T) (z:=(0,0)) (w.map (Value.int k)) (((lumpV k n v.toList).drop lo.toNat).take w.length) h (segs (ss.take j)++(lumpV k n v.toList).take lo.toNat) ((lumpV k n v.toList).drop (lo.toNat+w.length)++segs (ss.drop (j+1))) 0 ?_ (by simp [hl]; omega)
   (by rw [List.length_append,cD,List.length_take,hl]; omega) (.inl (Nat.zero_le _)) (fun x hx=>by simp only [List.mem_map] at hx; obtain ⟨y,_,rfl⟩:=hx; rfl) fun h' hb' hk _=>fin h' ?_ hk
  ·rw [hb,hcells]; congr 2
   conv=>lhs; rw [hsplit]
   simp only [List.append_assoc]
  ·rw [hb',hres]
   simp only [List.append_assoc]
 unfold resl
 by_cases hc:n=lo.toNat
 ·rw [if_pos hc]
  have PZ:w=[]:=List.length_eq_zero_iff.1 (by omega);show stAll h (p.add off) 0 (w.map (Value.int k)) _;rw [PZ] at hres |-
  refine fin h ?_ (Keep.refl _ _);rw [hb,hres,hcells];simp
 ·rw [if_neg hc]
  show stAll h ((p.add off).add (lo.toNat*1)) 0 (w.map (Value.int k)) _;rw [add_add,add_eq p0 p1,Nat.mul_one];exact go
def P0 (l:List Int) (K:ByteArray->Prop):Prop:= ∃ b:ByteArray,bts b=l/\K b
theorem P1 {nl:Nat} {l:List Int} {K':ByteArray->Prop} {K:(Hp->Prop)->ByteArray->Prop} (hX:Rd (rI .u8) a' a nl c l) (I:Inv h (a'::A)) (H:P0 l K') (kk: ∀ f b,K' b->K f b):It h ⟨a,nl,c⟩ K:=by
 obtain rfl:=fB hX I;obtain ⟨b,rfl,HK⟩:=H;obtain ⟨F,M,hP⟩:=I.get;obtain ⟨_,vs,g1,g2,g3⟩:=hX hP;obtain rfl:=pg.1 g3;have e:(bts b).map (Value.int .u8)=byteVals b:=by simp [bts,byteVals]
 unfold It
 cases a with
 | none=>
  have h2:=g1.2;simp only at h2
  have hb:b= .empty:=by
   have:(bts b)=[]:=by simpa using h2
   cases b; simp [bts] at this; subst this; rfl
  subst hb
  exact kk _ _ HK
 | some x=> have h3:=g1.cellsAt;rw [e,Nat.mul_one] at h3;exact ⟨b,h3,kk _ _ HK⟩
theorem P2 {b:ByteArray} {K:Sl->Hp->Prop} (I:Inv h A) (kk: ∀ a1 c1 h',Inv h' (ownS (rI .u8) a1 (bts b).length c1 (bts b)::A)->K ⟨a1,(bts b).length,c1⟩ h'):s2b T h b K:=by
 intro c hc;have e:(bts b).map (Value.int .u8)=byteVals b:=by simp [bts,byteVals]
 have:=kk (some ⟨h.size,0,none⟩) c (h.push (.cells (byteVals b++List.replicate (c - b.size) (Value.int .u8 0)).toArray T (c,c+1))) ?_
 ·simpa using this
 ·obtain ⟨F,M,hF,_,_,_,H⟩:=I.dV.turn
  have hF:F=[]:=hF;subst hF
  refine H _ [_] [[h.size]] (Keep.push _ _ _) (fun b hb=> .inr (by simp at hb; omega)) (by simp) fun M' _ _ _=>⟨⟨rfl,T,byteVals b,⟨by simp [byteVals],by simpa using hc,rfl,rfl,[],List.replicate (c - b.size) (Value.int .u8 0),(c,c+1),by simp,rfl, ?_, .inr (by simp)⟩,pg.2 e.symm⟩,trivial⟩
  simp [byteVals]; omega
theorem Bv {s:ByteArray} {lo hi:Int} {K' K:ByteArray->Prop} (H:stW s lo hi K') (kk: ∀ x,K' x->K x):stW s lo hi K:=⟨H.1,H.2.1,kk _ H.2.2⟩
def allOne (vs:List Value):Bool:=vs.all fun v=>v.oneCell'
theorem dz {vs:List Value} (h:allOne vs=true): ∀ v ∈ vs,v.oneCell'=true:=by simpa [allOne] using h
theorem dN (k:IntKind) (n:Nat) (l:List Int):allOne (lumpV k n l)=true:=by simp only [allOne,List.all_eq_true,lumpV,List.mem_map];rintro v ⟨x,_,rfl⟩;rfl
theorem qd:SlE E h M none 0 []:=⟨[],SlV.nil _ _,Nat.le_refl _,fun h=>absurd rfl h,rfl⟩
end Go.Pu
namespace Go.Pu
open Go Go.Wc
variable {X:Type} {E:Rp X} {h h':Hp} {l m:List X} {A:List At} {a a2:Option Addr} {c c2 T n bytes:Nat} {a':At} {z:Value} {z0:X}
theorem Mj {X X' Y Y':Prop} (H:X'/\Y') (h1:X'->X) (h2:Y'->Y):X/\Y:=⟨h1 H.1,h2 H.2⟩
theorem IL {nl:Nat} {l:List X} (hX:Rd E a' none nl c l) (I:Inv h (a'::A)) (hn:E.n ≠ 0):l=[]:=by
 obtain ⟨F,M,hP⟩:=I.get;obtain ⟨_,vs,g1,g2,g3⟩:=hX hP;have h2:=g1.2;simp only at h2;subst h2;have:=g1.1;have h3:0=l.length*E.n:=this;rcases Nat.mul_eq_zero.1 h3.symm with e | e
 ·exact List.length_eq_zero_iff.1 e
 ·exact absurd e hn
def cloneP (l:List X) (Q:List X->Prop):Prop:=Bnd l.length/\Q l
theorem IM {nl:Nat} {Q':List X->Prop} {Q:Sl->Hp->Prop} (hX:Rd E a' a nl c l) (I:Inv h (a'::A)) (hn:E.n ≠ 0) (hz:z.cells.size=E.n) (hb:bytes ≠ 0) (hbb:bytes<=30000) (H:cloneP l Q')
  (k: ∀ r ra rc h',Inv h' (ownS E ra r.length rc r::a'::A)->Q' r->Q ⟨ra,r.length,rc⟩ h'):
  br (Option.isNone a) (Q ⟨none,0,0⟩ h) (alW h T [] fun p h2=>apW T E.n bytes z h2 ⟨some p,0,0⟩ ⟨a,nl,c⟩ fun s h4=>Q s h4):=by
 obtain ⟨H1,H2⟩:=H;obtain rfl:=fB hX I
 cases a with
 | none=>
  rw [Option.isNone_none,ak];obtain rfl:=IL hX I hn
  exact k [] none 0 h (I.nilO E) H2
 | some x=> rw [Option.isNone_some,aa];refine ni [] rfl I fun p h I=> ?_;refine Mg (l:=[]) hX (I.Wa E) hz hb hbb (by simpa using H1) fun a1 c1 h I=> ?_;exact k _ _ _ _ I H2
theorem qL {l:List X} {i:Int}:sub l 0 i=l.take i.toNat:=by simp [sub]
theorem qM {l:List X} {i:Int}:sub l i (l.length:Int)=l.drop i.toNat:=by simp [sub]
theorem D7 {nl:Nat} {l:List X} (I:Inv h (ownS E none nl c l::A)):l=[]:=by obtain ⟨F,M,_,T',vs,g1,g2⟩:=I.get;have h2:=g1.2;simp only at h2;exact List.length_eq_zero_iff.1 (by omega)
end Go.Pu
namespace Go.Tx
open Go Go.Wc
end Go.Tx
namespace Go.Wc
theorem qe {a b:Nat} {φ ψ:Prop} (h:Nat.ble a b=true) (e:φ=ψ) (H:φ):a<=b/\ψ:=⟨Md h,cast e H⟩
end Go.Wc
namespace Go.Pu
open Go Go.Wc
variable {X:Type} {E:Rp X} {h:Hp} {A:List At} {a:Option Addr} {c:Nat} {l:List X} {z0:X} {z:Value}
end Go.Pu
namespace Go.Pu
open Go Go.Wc
variable {κ V:Type} [DecidableEq κ]
theorem Mk {X:Type} {l:List X} {i:Int} {x:X} {K:X->Prop} (h0:0<=i) (hx:l[i.toNat]? =some x) (H:K x):ixP l i K:=⟨h0,x,hx,H⟩
theorem lP {X:Type} {l:List X} {i:Nat} {x:X} {K:X->Prop} (hx:l[i]? =some x) (H:K x):ixP l (i:Int) K:=⟨by omega,x,by rw [Int.toNat_natCast]; exact hx,H⟩
theorem IN {X:Type} {acc rest:List X} {x:X}:(acc++x::rest)[acc.length]? =some x:=by rw [List.getElem?_append_right (Nat.le_refl _)]; simp
theorem dw {X:Type} {l:List X} {i:Int} {K:X->Prop} (H:ixP l i K):ixP l i (fun x=>l[i.toNat]? =some x/\K x):=by obtain ⟨h0,x,hx,hK⟩:=H;exact ⟨h0,x,hx,hx,hK⟩
def Seg.okB:Seg->Bool
 | .one v=>v.oneCell'
 | .vec _ _ _=>true
theorem kN {ss:List Seg} (h:ss.all Seg.okB=true): ∀ v ∈ segs ss,v.oneCell'=true:=by
 induction ss with
 | nil=>intro v hv; simp [segs] at hv
 | cons s ss ih=>
  rw [List.all_cons,Bool.and_eq_true] at h;intro v hv;have e:segs (s::ss)=s.cells++segs ss:=by simp [segs]
  rw [e,List.mem_append] at hv;rcases hv with hv | hv
  ·cases s with
   | one w=>
    have:v=w:=by simpa [Seg.cells] using hv
    subst this; exact h.1
   | vec k n w=> have:=dN k n w.toList;exact dz this v (by simpa [Seg.cells] using hv)
  ·exact ih h.2 v hv
theorem mF {X:Type} {E:Rp X} {a':At} {a:Option Addr} {nl n2 c:Nat} {l:List X} {lo hi:Int} (hX:Rd E a' a nl c l) (H:SlOk l lo hi) (hn:n2=(sub l lo hi).length):Rd E a' (resl a c E.n lo) n2 (c - lo.toNat) (sub l lo hi):=by intro h F M hP;refine ⟨hn, ?_⟩;obtain ⟨_,vs,g1,g2,g3⟩:=hX hP;obtain ⟨h0,h1,h2⟩:=H;obtain ⟨k1,k2⟩:=Bt g1 h0 h1 h2 g2;have hsl:=cg (l:=l) ⟨h0,h1,h2⟩;exact ⟨_,by rw [hsl]; exact k1,by rw [hsl]; exact k2,g3.sub (by omega) (by omega)⟩
end Go.Pu
namespace Go.Pu
open Go Go.Wc
variable {X:Type} {E:Rp X} {h:Hp} {A:List At} {a a2:Option Addr} {c c2:Nat} {l m:List X} {a':At}
def cpP (l:List X) (i n:Nat) (m:List X):List X:=l.take i++m.take (min m.length n)++l.drop (i+min m.length n)
theorem zN {i n:Nat} (h:i+n<=l.length):(cpP l i n m).length=l.length:=by simp only [cpP,List.length_append,List.length_take,List.length_drop]; omega
theorem P3 {nl nm n2 i:Nat} {K:Int->Hp->Prop} (hX:Rd E a' a2 nm c2 m) (I:Inv h (ownS E a nl c l::a'::A)) (hi:i+n2<=l.length) (k: ∀ h',Inv h' (ownS E a nl c (cpP l i n2 m)::a'::A)->K (min nm n2:Nat) h'):
  cpW E.n h ⟨resl a c E.n (i:Int),n2,c - i⟩ ⟨a2,nm,c2⟩ K:=by
 obtain rfl:=fB hX I.swap;obtain rfl:=fF I;have I0:=I;obtain ⟨F,M,⟨F1,F2,eF,⟨_,T',vs,h1,h2⟩,h3⟩,hFM,hnd,hlt,H⟩:=I.sepI.turn;subst eF;obtain ⟨_,ws,g1,g2,g3⟩:=hX h3;have hwl:=g3.len;have hvl:=h2.len;generalize hq:min m.length n2=q at*
 have hqm:q<=m.length:=by omega
 have hmin:q*E.n<=ws.length:=by rw [hwl]; exact Nat.mul_le_mul_right _ hqm
 have hqn:i+q<=l.length:=by omega
 have hc:l.length<=c:=h1.2.1
 have e1: ∀ h':Hp,Keep F1 h h'->Own h' ⟨a,l.length,c⟩ T' E.n (vs.take (i*E.n)++ws.take (q*E.n)++vs.drop ((i+q)*E.n)) F1->K (q:Nat) h':=fun h' hk hO=>by obtain ⟨d1,d2,d3⟩:=List.nodup_append.1 hnd;have KT:=a'.lt h3;have el:(cpP l i n2 m).length=l.length:=zN hi;refine k h' (H h' [_,a'] [F1,F2] (hk.mono fun b hb=> .inl (by simp [hb])) (fun b hb=> .inl (by rw [pn] at hb; exact hb)) (by rw [pn]; exact hnd) fun M' hL _ _=>⟨⟨el.symm,T',_,by rw [el]; exact hO, ?_⟩,a'.mono (fun b hb=>hk.2 b (KT b hb) fun e=>d3 b e b hb rfl) hL h3,trivial⟩);unfold cpP;rw [hq];exact ((((h2.mono hL).take_drop i (by omega)).1).append ((g3.mono hL).take_drop q hqm).1).append ((h2.mono hL).take_drop (i+q) hqn).2
 unfold cpW;dsimp only;rw [hq];refine ⟨ws.take (q*E.n), ?_, ?_⟩
 ·have:=(g1.take (i:=q) hqm c2).cellsAt
  exact this
 ·have hwq:(ws.take (q*E.n)).length=q*E.n:=by rw [List.length_take]; omega
  cases a with
  | none=>
   have e:=D7 I0;subst e;have q0:q=0:=by simp at hqn; omega
   have i0:i=0:=by simp at hqn; omega
   have D8:vs=[]:=List.length_eq_zero_iff.1 (by simpa using hvl);have hK:K (q:Nat) h:=e1 h (Keep.refl _ _) (by subst q0 i0 D8; simpa using h1);have:resl none c E.n (i:Int)=none:=by unfold resl; split <;> rfl
   rw [this]
   exact hK
  | some x=>
   obtain ⟨o1,Wh,o3⟩:=h1;obtain ⟨b,o,sp⟩:=x;obtain ⟨hf,hs,pre,post,fz,hbk,hp,Bw,Pq⟩:=o3;simp only at hs hbk hp hf Pq o1 Wh Bw; subst hs;have hcn:l.length*E.n<=c*E.n:=Nat.mul_le_mul_right _ hc;have hin:(i+q)*E.n<=l.length*E.n:=Nat.mul_le_mul_right _ hqn;have him:(i+q)*E.n=i*E.n+q*E.n:=Nat.add_mul _ _ _
   by_cases hci:c=i
   ·have q0:q=0:=by omega
    have e2:ws.take (q*E.n)=[]:=by rw [q0]; simp
    have hK:K (q:Nat) h:=e1 h (Keep.refl _ _) ⟨by simp only [List.length_append,List.length_take,List.length_drop]; omega,Wh,hf,rfl,pre,post,fz,by
     rw [hbk,e2,q0]; congr 2; simp,hp,by simp only [List.length_append,List.length_take,List.length_drop]; omega,Pq⟩
    have:resl (some ⟨b,o,none⟩) c E.n (i:Int)=some ⟨b,o,none⟩:=by unfold resl; rw [if_pos (by simpa using hci)]
    rw [this,e2];exact hK
   ·have:resl (some ⟨b,o,none⟩) c E.n (i:Int)=some ⟨b,o+i*E.n,none⟩:=by unfold resl; rw [if_neg (by simpa using hci)]; simp
    rw [this];refine gy (T:=T') (z:=fz) (ws.take (q*E.n)) ((vs.drop (i*E.n)).take (q*E.n)) h (pre++vs.take (i*E.n)) (vs.drop ((i+q)*E.n)++post) 0 ?_ (by simp only [List.length_take,List.length_drop]; omega) (by simp only [List.length_append,List.length_take]; omega) (by rw [hwq]; omega) (fun v hv=>g3.one v (List.mem_of_mem_take hv)) fun h' hb' k' hs'=> ?_
    ·rw [hbk]
     congr 2;simp only [List.append_assoc];rw [him,<- List.drop_drop]
     conv=>lhs; rw [<- List.take_append_drop (i*E.n) vs,<- List.take_append_drop (q*E.n) (vs.drop (i*E.n))]
     simp only [List.append_assoc]
    ·refine e1 h' (by rw [hf]; exact k') ⟨by simp only [List.length_append,List.length_take,List.length_drop]; omega,Wh,hf,rfl,pre,post,fz,by rw [hb']; simp only [List.append_assoc],hp,by simp only [List.length_append,List.length_take,List.length_drop]; omega,Pq⟩
theorem IP {lo hi:Int} (H:SlOk l lo hi):lo.toNat+(sub l lo hi).length<=l.length:=by have:=cg H;obtain ⟨h0,h1,h2⟩:=H;omega
end Go.Pu
namespace Go.Pu
open Go Go.Wc
def bytesL (l:List Int):Prop:= ∀ x ∈ l,0<=x/\x<256
def leB:Nat->Int->List Int
 | 0,_=>[]
 | k+1,n=>(n % 256)::leB k (n / 256)
def valB:List Int->Int
 | []=>0
 | x::l=>x+256*valB l
theorem wrap_u8 (n:Int):IntKind.wrap .u8 n=n % 256:=by simp [IntKind.wrap,IntKind.signed,IntKind.bits]
theorem wrap_u64 {n:Int} (h0:0<=n) (h1:n<18446744073709551616):IntKind.wrap .u64 n=n:=by simp only [IntKind.wrap,IntKind.signed,IntKind.bits,Bool.false_and,Bool.false_eq_true,if_false];exact Int.emod_eq_of_lt h0 (by simpa using h1)
theorem mG {l:List Int} (h:bytesL l):0<=valB l/\valB l<256 ^ l.length:=by
 induction l with
 | nil=>simp [valB]
 | cons x l ih=> have hx:=h x (by simp);have:=ih fun y hy=>h y (by simp [hy]);simp only [valB,List.length_cons];rw [Int.pow_succ];omega
theorem IQ {l:List Int} (h:bytesL l):leB l.length (valB l)=l:=by
 induction l with
 | nil=>rfl
 | cons x l ih=>
  have hx:=h x (by simp);have:=ih fun y hy=>h y (by simp [hy]);simp only [valB,List.length_cons,leB];have e1:(x+256*valB l) % 256=x:=by omega
  have e2:(x+256*valB l) / 256=valB l:=by omega
  rw [e1,e2,this]
theorem IS {k:Nat} {n:Int} (h0:0<=n) (h1:n<256 ^ k):valB (leB k n)=n:=by
 induction k generalizing n with
 | zero=>simp at h1; simp [leB,valB]; omega
 | succ k ih=> simp only [leB,valB];rw [Int.pow_succ] at h1;rw [ih (by omega) (by omega)];omega
theorem pz (l m:List Int):valB (l++m)=valB l+256 ^ l.length*valB m:=by
 induction l with
 | nil=>simp [valB]
 | cons x l ih=> simp only [List.cons_append,valB,ih,List.length_cons];rw [Int.pow_succ,Int.mul_add,Int.mul_comm (256 ^ l.length) 256,Int.mul_assoc];omega
theorem D9 {n x:Int} {i:Nat} (hn:0<=n/\n<256 ^ i) (hx:0<=x/\x<256) (hi:i<8):
  ((BitVec.ofInt 64 n ||| BitVec.ofInt 64 (x*256 ^ i)).toNat:Int)=n+x*256 ^ i:=by
 obtain ⟨a,rfl⟩: ∃ a:Nat,n=a:=⟨n.toNat,by omega⟩
 obtain ⟨b,rfl⟩: ∃ b:Nat,x=b:=⟨x.toNat,by omega⟩
 have c:((256 ^ i:Nat):Int)=(256:Int) ^ i:=by rw [Int.natCast_pow]; rfl
 have ha:a<256 ^ i:=by have:=hn.2; rw [<- c] at this; omega
 have hb:b<256:=by omega
 have hp:(256:Nat) ^ i*256<=2 ^ 64:=by
  have:(256:Nat) ^ i<=256 ^ 7:=Nat.pow_le_pow_right (by omega) (by omega);have:(256:Nat) ^ 7*256=2 ^ 64:=by decide
  omega
 have hpos:0<(256:Nat) ^ i:=Nat.pow_pos (by omega)
 have hbi:b*256 ^ i<2 ^ 64:=by have:b*256 ^ i<256*256 ^ i:=Nat.mul_lt_mul_of_pos_right hb hpos;rw [Nat.mul_comm] at hp;omega
 have ha2:a<2 ^ 64:=by omega
 have e1:BitVec.ofInt 64 (a:Int)=BitVec.ofNat 64 a:=by simp
 have e2:BitVec.ofInt 64 ((b:Int)*256 ^ i)=BitVec.ofNat 64 (b*256 ^ i):=by rw [<- BitVec.ofInt_natCast,<- c,Int.natCast_mul]
 rw [e1,e2,BitVec.toNat_or,BitVec.toNat_ofNat,BitVec.toNat_ofNat,Nat.mod_eq_of_lt ha2,Nat.mod_eq_of_lt hbi];have e3:(256:Nat) ^ i=2 ^ (8*i):=by rw [Nat.pow_mul]
 have e4:a ||| b*256 ^ i=a+b*256 ^ i:=by rw [Nat.or_comm,e3,Nat.mul_comm,<- Nat.two_pow_add_eq_or_of_lt (by rw [<- e3]; exact ha)];omega
 rw [e4,Int.natCast_add,Int.natCast_mul,c]
theorem ov {k m:Nat} (h:k<=m):(256:Int) ^ k<=256 ^ m:=by
 have h1:(256:Nat) ^ k<=256 ^ m:=Nat.pow_le_pow_right (by omega) h;have c: ∀ i:Nat,((256 ^ i:Nat):Int)=(256:Int) ^ i:=fun i=>by rw [Int.natCast_pow]; rfl
 rw [<- c,<- c]; omega
end Go.Pu
namespace Go.Pu
open Go Go.Wc
variable {X V:Type} {E:Rp X} {h:Hp} {A:List At} {a' b':At} {a a2:Option Addr} {c c2 T:Nat} {l m:List X} {p:Addr} {ss:List Seg}
theorem Mn {n c1:Nat} (hX:Rd E a' a n c l) (hc:l.length<=c1):Rd E a' a n c1 l:=fun hP=>by obtain ⟨e,vs,g1,g2,g3⟩:=hX hP;exact ⟨e,vs,⟨g1.1,g1.2⟩,hc,g3⟩
theorem Ec {n c0 c1:Nat} {a1:Option Addr} {l0:List X} (hX:Rd E a' a n c0 l0):Rd E a' a1 0 c1 ([]:List X):=fun hP=>by
 refine ⟨rfl,[],⟨by simp, ?_⟩,Nat.zero_le _,rfl⟩
 cases a1 with
 | none=>rfl
 | some x=>exact ⟨fun h=>absurd rfl h,fun i hi=>absurd hi (by simp)⟩
theorem IW {k:IntKind} {n:Nat} {off j:Nat} {v:Vector Int n} {lo:Int} {a1:Option Addr} {c1 len nm:Nat} {m:List Int} {K:Int->Hp->Prop} (hv:segAt ss j 0=some (off, .vec k n v)) (hs:VSl p off n lo a1 c1) (h0:0<=lo/\lo<=n) (hlen:len=n - lo.toNat)
  (hX:Rd (rI k) (blk p T ss) a2 nm c2 m) (I:Inv h (blk p T ss::A))
  (kk: ∀ h',Inv h' (blk p T (ss.set j (.vec k n (cpV v lo.toNat m)))::A)->K (min nm len:Nat) h'):cpW 1 h ⟨a1,len,c1⟩ ⟨a2,nm,c2⟩ K:=by
 obtain rfl:=fB hX I;obtain ⟨F,M,⟨hF,p0,p1,hb⟩,hFM,hnd,hlt,H⟩:=I.turn;obtain ⟨_,us,g1,g2,g3⟩:=hX (h:=h) (F:=F) (M:=M) ⟨hF,p0,p1,hb⟩;obtain rfl:=pg.1 g3;obtain ⟨e1,e2⟩:=dr hv;obtain ⟨_,hil⟩:=nj (t:= .vec k n v) hv rfl;obtain ⟨rfl,rfl⟩:=hs;have hl:(lumpV k n v.toList).length=n:=cm _ _ _
 let w:=m.take (min m.length len)
 have hw:w.length=min m.length len:=by simp only [w,List.length_take]; omega
 have hbnd:lo.toNat+w.length<=n:=by omega
 refine ⟨w.map (Value.int k), ?_, ?_⟩
 ·have:=(g1.take (i:=min m.length len) (Nat.min_le_left _ _) c2).cellsAt
  simpa [w,List.map_take] using this
 have ecp:cpV v lo.toNat m=toV n (v.toList.take lo.toNat++(w++v.toList.drop (lo.toNat+w.length))):=by
  unfold cpV cpL;have hdl:(v.toList.drop lo.toNat).length=len:=by simp; omega
  rw [hdl,List.drop_drop]
  have q1:m.take len=w:=by simp only [w]; rw [List.take_eq_take_iff]; omega
  have q2:v.toList.drop (lo.toNat+m.length)=v.toList.drop (lo.toNat+w.length):=by
   rw [hw];rcases Nat.le_total m.length len with h | h
   ·rw [Nat.min_eq_left h]
   ·rw [Nat.min_eq_right h,List.drop_eq_nil_of_le (by simp; omega),List.drop_eq_nil_of_le (by simp; omega)]
  rw [q1,q2]
 have fin: ∀ h',h'[p.block]? =some (.cells (segs (ss.set j (.vec k n (cpV v lo.toNat m)))).toArray T (0,0))->Keep [p.block] h h'->K (min m.length len:Nat) h':=by intro h' hb' hk;exact kk h' (H h' [_] [F] (hk.mono fun b hb=> .inl (by rw [hF]; exact hb)) (fun b hb=> .inl (by simpa using hb)) (by simpa using hnd) fun M' hL _ _=>⟨⟨hF,p0,p1,hb'⟩,trivial⟩)
 have hcells:segs ss=segs (ss.take j)++(lumpV k n v.toList++segs (ss.drop (j+1))):=by
  conv=>lhs; rw [e1,cv]
  rfl
 have hsplit:lumpV k n v.toList=(lumpV k n v.toList).take lo.toNat++(((lumpV k n v.toList).drop lo.toNat).take w.length++(lumpV k n v.toList).drop (lo.toNat+w.length)):=by rw [<- List.drop_drop,List.take_append_drop,List.take_append_drop]
 have hres:segs (ss.set j (.vec k n (cpV v lo.toNat m)))=segs (ss.take j)++((lumpV k n v.toList).take lo.toNat++(w.map (Value.int k)++(lumpV k n v.toList).drop (lo.toNat+w.length))++segs (ss.drop (j+1))):=by rw [List.set_eq_take_append_cons_drop,if_pos hil,cv];simp only [segs,Seg.cells];rw [ecp,ua hbnd]
 have go:stAll h ⟨p.block,off+lo.toNat,none⟩ 0 (w.map (Value.int k)) fun h'=>K (min m.length len:Nat) h':=by
  refine gy (T:=T) (z:=(0,0)) (w.map (Value.int k)) (((lumpV k n v.toList).drop lo.toNat).take w.length) h (segs (ss.take j)++(lumpV k n v.toList).take lo.toNat) ((lumpV k n v.toList).drop (lo.toNat+w.length)++segs (ss.drop (j+1))) 0 ?_ (by simp [hl]; omega)
   (by rw [List.length_append,cD,List.length_take,hl]; omega) (.inl (Nat.zero_le _)) (fun x hx=>by simp only [List.mem_map] at hx; obtain ⟨y,_,rfl⟩:=hx; rfl) fun h' hb' hk _=>fin h' ?_ hk
  ·rw [hb,hcells]; congr 2
   conv=>lhs; rw [hsplit]
   simp only [List.append_assoc]
  ·rw [hb',hres]
   simp only [List.append_assoc]
 unfold resl
 by_cases hc:n=lo.toNat
 ·rw [if_pos hc]
  have PZ:w=[]:=List.length_eq_zero_iff.1 (by omega);show stAll h (p.add off) 0 (w.map (Value.int k)) _;rw [PZ] at hres |-
  refine fin h ?_ (Keep.refl _ _);rw [hb,hres,hcells];simp
 ·rw [if_neg hc]
  show stAll h ((p.add off).add (lo.toNat*1)) 0 (w.map (Value.int k)) _;rw [add_add,add_eq p0 p1,Nat.mul_one];exact go
theorem fZ {k:IntKind} {n:Nat} {i:Int} {off j:Nat} {v:Vector Int n} {q:Addr} {x:Int} (I:Inv h (blk p T ss::A)) (hv:segAt ss j 0=some (off, .vec k n v)) (hq:VAdr p off i q) (hb:0<=i/\i<n) (hg:v.toList[i.toNat]? =some x):
  hcell h q=some (.int k x):=by
 have key:ixW (some (p.add off)) n i 1 fun q'=>q'=q->hcell h q'=some (.int k x):=by refine fU (K':=fun y=>y=x) I hv ⟨hb.1,x,hg,rfl⟩ fun q' y hq' hb' hc e he=> ?_;subst e; exact hc
 obtain ⟨a,e1,e2,e3⟩:=key;cases e1;unfold VAdr at hq;subst hq;exact e3 rfl
theorem withB {φ:Prop} (b:Bool) (k: ∀ v,v=b->φ):φ:=k b rfl
end Go.Pu
namespace Go.Pu
open Go Go.Wc
variable {κ X:Type} [DecidableEq κ] {Kx:Ky κ} {E:Rp X} {h:Hp} {A:List At} {m:Option Nat} {o:Option (Array MapEntry × Nat)} {a:Option Addr} {c n:Nat} {l:List X} {key:κ} {L:Option (List (κ × List X))}
structure Row (X:Type) where
 a:Option Addr
 c:Nat
 l:List X
theorem Inv.perm {X Y:List At} (p:X.Perm Y): ∀ C,Inv h (X++C)->Inv h (Y++C):=by
 induction p with
 | nil=>exact fun C I=>I
 | cons x _ ih=>
  intro C I;have:=ih (C++[x]) (by simpa using (show Inv h (x::(_++C)) from I).rot)
  exact Inv.rot' (X:=_++C) (by simpa using this)
 | swap x y l=>exact fun C I=>I.swap
 | trans _ _ i1 i2=>exact fun C I=>i2 C (i1 C I)
end Go.Pu
namespace Go.Pu
@[reducible] def nzW (b:Int) (P:Unit->Prop):Prop:=match b with
 | .ofNat (.succ _)=>P ()
 | b=>b ≠ 0/\P ()
@[reducible] def jn (b:Int) (P:Unit->Prop):Prop:=match b with
 | .ofNat _=>P ()
 | b=>0<=b/\P ()
@[reducible] def mkW (b:Int) (P:Unit->Prop):Prop:=match b with
 | .ofNat n=>bif Nat.ble n 4294967296 then P () else False
 | _=>False
@[reducible] def subA {X:Type} (n:Nat) (l:List X) (lo hi:Int):List X:=match lo,hi with
 | .ofNat 0, .ofNat h=>bif Nat.beq h n then l else sub l lo hi
 | _,_=>sub l lo hi
theorem P6 {b:Int} {P:Unit->Prop} (h:b ≠ 0) (hP:P ()):nzW b P:=by
 unfold nzW; split
 ·exact hP
 ·exact ⟨h,hP⟩
theorem KX {b:Int} {P:Unit->Prop} (h:nzW b P):b ≠ 0/\P ():=by
 unfold nzW at h;split at h
 ·exact ⟨by simp; omega,h⟩
 ·exact h
theorem fV {b:Int} {P:Unit->Prop} (h:0<=b) (hP:P ()):jn b P:=by
 unfold jn; split
 ·exact hP
 ·exact ⟨h,hP⟩
theorem Ed {b:Int} {P:Unit->Prop} (h:jn b P):0<=b/\P ():=by
 unfold jn at h;split at h
 ·exact ⟨Int.natCast_nonneg _,h⟩
 ·exact h
theorem wX {b:Int} {P:Unit->Prop} (h:0<=b/\b<=4294967296) (hP:P ()):mkW b P:=by obtain ⟨n,rfl⟩:=Int.eq_ofNat_of_zero_le h.1;show cond (Nat.ble n 4294967296) _ _;rw [Nat.ble_eq_true_of_le (by have:=h.2; omega)]; exact hP
theorem P7 {b:Int} {P:Unit->Prop} (h:mkW b P):(0<=b/\b<=4294967296)/\P ():=by
 unfold mkW at h;split at h
 ·rename_i n
  cases hb:Nat.ble n 4294967296 with
  | false=>rw [hb] at h; exact h.elim
  | true=>rw [hb] at h; exact ⟨⟨Int.natCast_nonneg _,by have:=Nat.le_of_ble_eq_true hb; show (n:Int)<=_; omega⟩,h⟩
 ·exact h.elim
theorem IX {X:Type} {n:Nat} {l:List X} {lo hi:Int} (h:l.length=n):subA n l lo hi=sub l lo hi:=by
 unfold subA;split
 ·rename_i k
  cases hb:Nat.beq k n with
  | false=>rfl
  | true=>
   have:k=n:=by simpa using hb
   subst this;show l=sub l (Int.ofNat 0) (Int.ofNat k);unfold sub;simp [<- h]
 ·rfl
theorem iS {n:Nat} {v:Vector Int n} {lo hi:Int}:subA n v.toList lo hi=sub v.toList lo hi:=IX (by simp)
end Go.Pu
