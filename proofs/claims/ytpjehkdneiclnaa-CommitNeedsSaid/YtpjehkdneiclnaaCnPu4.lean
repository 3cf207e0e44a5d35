import Derived.Test.YtpjehkdneiclnaaCnPu3
set_option linter.unusedSimpArgs false
set_option linter.unusedVariables false
namespace Go.Pu
open Go Go.Wc
variable {X:Type} {E:Rp X} {h h':Hp} {M M':List Nat} {vs ws:List Value} {l m:List X} {A:List At} {a a2:Option Addr} {c c2 T n:Nat} {a':At} {k:IntKind} {p:Addr} {ss:List Seg}
theorem ixI_a {nl:Nat} {l:List Int} {i:Int} {K':Int→Prop} {K:Addr→Prop} (hX:Rd (rI k) a' a nl c l) (I:Inv h (a'::A)) (H:ixP l i K')
    (kk: ∀ p x,EAdr a 1 i p→(0≤i∧i<l.length)→hcell h p=some (.int k x)→K' x→K p):ixW a nl i 1 K:=
  ix_r hX I Nat.one_ne_zero H fun p vs x he _ hc I hx=>by
    obtain ⟨_,_,_,e⟩:=I.get
    have e:vs=[.int k x]:=e
    subst e
    exact kk p x he (ixP_lt H) (hc 0 _ rfl) hx
theorem ixB_a {nl:Nat} {l:List Bool} {i:Int} {K':Bool→Prop} {K:Addr→Prop} (hX:Rd rB a' a nl c l) (I:Inv h (a'::A)) (H:ixP l i K')
    (kk: ∀ p x,EAdr a 1 i p→(0≤i∧i<l.length)→hcell h p=some (.bool x)→K' x→K p):ixW a nl i 1 K:=
  ix_r hX I Nat.one_ne_zero H fun p vs x he _ hc I hx=>by
    obtain ⟨_,_,_,e⟩:=I.get
    have e:vs=[.bool x]:=e
    subst e
    exact kk p x he (ixP_lt H) (hc 0 _ rfl) hx
theorem ixT_a {nl:Nat} {l:List ByteArray} {i:Int} {K':ByteArray→Prop} {K:Addr→Prop} (hX:Rd rT a' a nl c l) (I:Inv h (a'::A)) (H:ixP l i K')
    (kk: ∀ p x,EAdr a 1 i p→(0≤i∧i<l.length)→hcell h p=some (.string x)→K' x→K p):ixW a nl i 1 K:=
  ix_r hX I Nat.one_ne_zero H fun p vs x he _ hc I hx=>by
    obtain ⟨_,_,_,e⟩:=I.get
    have e:vs=[.string x]:=e
    subst e
    exact kk p x he (ixP_lt H) (hc 0 _ rfl) hx
theorem ixP_a {nl:Nat} {l:List (Option Addr)} {i:Int} {K':Option Addr→Prop} {K:Addr→Prop} (hX:Rd rP a' a nl c l) (I:Inv h (a'::A)) (H:ixP l i K')
    (kk: ∀ p x,EAdr a 1 i p→(0≤i∧i<l.length)→hcell h p=some (.pointer x)→K' x→K p):ixW a nl i 1 K:=
  ix_r hX I Nat.one_ne_zero H fun p vs x he _ hc I hx=>by
    obtain ⟨_,_,_,e⟩:=I.get
    have e:vs=[.pointer x]:=e
    subst e
    exact kk p x he (ixP_lt H) (hc 0 _ rfl) hx
theorem ixS_a {nl:Nat} {l:List (List X)} {i:Int} {K':List X→Prop} {K:Addr→Prop} (hX:Rd (rS E) a' a nl c l) (I:Inv h (a'::A)) (H:ixP l i K')
    (kk: ∀ p a1 c1 x,EAdr a 1 i p→(0≤i∧i<l.length)→hcell h p=some (.slice a1 x.length c1)→Inv h (roS E a1 x.length c1 x::a'::A)→K' x→K p):ixW a nl i 1 K:=
  ix_r hX I Nat.one_ne_zero H fun p vs x he _ hc I hx=>by
    obtain ⟨a1,c1,e,J⟩:=I.repS
    subst e
    exact kk p a1 c1 x he (ixP_lt H) (hc 0 _ rfl) J hx
theorem ixV_a {nl:Nat} {l:List (Vector Int n)} {i:Int} {K':Vector Int n→Prop} {K:Addr→Prop} (hX:Rd (rV k n) a' a nl c l) (I:Inv h (a'::A)) (hn:n ≠ 0) (H:ixP l i K')
    (kk: ∀ p x,EAdr a n i p→(0≤i∧i<l.length)→lfact k n x.toList p h→K' x→K p):ixW a nl i n K:=
  ix_r hX I hn H fun p vs x he _ hc I hx=>by
    obtain ⟨_,_,_,e⟩:=I.get
    have e:vs=lumpV k n x.toList:=e
    subst e
    exact kk p x he (ixP_lt H) (fun j hj=>hc j _ (lump_get k n _ j hj)) hx
def VAdr (p:Addr) (off:Nat) (i:Int) (q:Addr):Prop:=q=(p.add off).add (i.toNat*1)
theorem ix_vec {i:Int} {off j:Nat} {v:Vector Int n} {K':Int→Prop} {K:Addr→Prop} (I:Inv h (blk p T ss::A)) (hv:segAt ss j 0=some (off, .vec k n v)) (H:ixP v.toList i K')
    (kk: ∀ q x,VAdr p off i q→(0≤i∧i<n)→hcell h q=some (.int k x)→K' x→K q):ixW (some (p.add off)) n i 1 K:=by
  have hb:=ixP_lt H
  obtain ⟨h0,x,hx,hK⟩:=H
  simp only [Vector.length_toList] at hb
  refine ⟨_,rfl,hb,kk _ x rfl hb ?_ hK⟩
  have:=I.lump j off hv i.toNat (by omega)
  rw [Nat.mul_one,this]
  simp [List.getD_eq_getElem?_getD,hx]
theorem seg_set {ss:List Seg} {i off acc:Nat} {s t:Seg} (h:segAt ss i acc=some (off,s)) (hs:s.size=t.size):segSize ((ss.set i t).take i)=segSize (ss.take i)∧i<ss.length:=by
  obtain ⟨h1,_⟩:=segAt_split h
  have hil:i<ss.length:=by
    have:=congrArg List.length h1
    simp at this; omega
  refine ⟨?_,hil⟩
  rw [List.take_set,List.set_eq_of_length_le (by simp; omega)]
theorem vec_set {v:Vector Int n} {i:Nat} {x:Int} (hi:i<n):lumpV k n (v.setIfInBounds i x).toList=(lumpV k n v.toList).take i++ .int k x::(lumpV k n v.toList).drop (i+1):=by
  rw [lumpV_v,lumpV_v]
  have:(v.setIfInBounds i x).toList=v.toList.set i x:=by simp [Vector.toList]
  rw [this,List.set_eq_take_append_cons_drop,if_pos (by simpa using hi)]
  simp
theorem st_vec {i:Int} {off j:Nat} {v:Vector Int n} {x:Int} {q:Addr} {K:Hp→Prop} (I:Inv h (blk p T ss::A)) (hv:segAt ss j 0=some (off, .vec k n v)) (hq:VAdr p off i q) (hb:0≤i∧i<n)
    (kk: ∀ h',Inv h' (blk p T (ss.set j (.vec k n (v.setIfInBounds i.toNat x)))::A)→K h'):st h (q.add 0) (.int k x) K:=by
  have hi:i.toNat<n:=by omega
  obtain ⟨F,M,⟨hF,h0,h1,hb⟩,hFM,hn,hlt,H⟩:=I.turn
  obtain ⟨e1,e2⟩:=segAt_split hv
  obtain ⟨_,hil⟩:=seg_set (t:= .vec k n v) hv rfl
  subst hq
  rw [add_add,add_add,add_eq h0 h1,Nat.mul_one,Nat.add_zero]
  have hl:(lumpV k n v.toList).length=n:=lumpV_length _ _ _
  have hsp:lumpV k n v.toList=(lumpV k n v.toList).take i.toNat++(lumpV k n v.toList)[i.toNat]'(by omega)::(lumpV k n v.toList).drop (i.toNat+1):=by
    rw [← List.drop_eq_getElem_cons (by omega),List.take_append_drop]
  refine st_mid (T:=T) (z:=(0,0)) (pre:=segs (ss.take j)++(lumpV k n v.toList).take i.toNat) (post:=(lumpV k n v.toList).drop (i.toNat+1)++segs (ss.drop (j+1))) (u:=(lumpV k n v.toList)[i.toNat]'(by omega)) ?_
    (by rw [List.length_append,segs_length,List.length_take,hl]; omega) (.inr (Nat.zero_le _)) fun h' hb' k' hs'=> ?_
  · rw [hb]
    congr 2
    have:segs ss=segs (ss.take j)++(lumpV k n v.toList++segs (ss.drop (j+1))):=by
      conv=>lhs; rw [e1,segs_append]
      rfl
    rw [this]
    conv=>lhs; rw [hsp]
    simp only [List.append_assoc,List.cons_append]
  · refine kk h' (H h' [_] [[p.block]] (by rw [hF]; exact k') (fun b hb => .inl (by rw [hF]; simpa using hb)) (by simp) fun M' _ _ _ => ⟨⟨rfl, h0, h1, ?_⟩, trivial⟩)
    rw [hb',List.set_eq_take_append_cons_drop,if_pos hil,segs_append]
    simp only [segs,Seg.cells,vec_set hi,List.append_assoc,List.cons_append]
theorem rd_vec {off j:Nat} {v:Vector Int n} (hv:segAt ss j 0=some (off, .vec k n v)):Rd (rI k) (blk p T ss) (some (p.add off)) n n v.toList:=by
  intro h F M ⟨hF,h0,h1,hb⟩
  refine ⟨by simp, ?_⟩
  obtain ⟨e1,e2⟩:=segAt_split hv
  refine ⟨v.toList.map (Value.int k),⟨by simp, ?_⟩,by simp,els_I.2 rfl⟩
  rw [add_eq h0 h1]
  refine ⟨fun _=>rfl,fun i hi=> ?_⟩
  have hi:i<n:=by simpa using hi
  rw [hcell_of hb,e1,segs_append,e2,Nat.zero_add]
  simp only [segs,Seg.cells,List.getElem?_toArray]
  rw [List.getElem?_append_right (by rw [segs_length]; omega),segs_length,Nat.add_sub_cancel_left,List.getElem?_append_left (by rw [lumpV_length]; exact hi),lumpV_v]
  rw [List.getElem?_eq_getElem]
theorem sl_full {q:Addr} {K:Sl→Prop} (kk:K ⟨some q,n,n⟩):slW ⟨some q,n,n⟩ (0:Int) ((n:Nat):Int) 1 K:=by
  refine ⟨⟨by omega,by simp⟩,⟨Int.le_refl _,by omega⟩, ?_⟩
  have e:(if n=(0:Int).toNat then some q else (some q).map (·.add ((0:Int).toNat*1)))=some q:=by
    split
    · rfl
    · simp; exact if_pos rfl
  simp only [e]
  simpa using kk
theorem Inv.vecO {v:Vector Int n} (I:Inv h (blk p T [.vec k n v]::A)):Inv h (ownS (rI k) (some p) n n v.toList::A):=
  I.lit (by simp) fun M=>els_I.2 (by simp [segs,Seg.cells,lumpV_v])
def toV (n:Nat) (l:List Int):Vector Int n:=⟨(nrm n l).toArray,by simp [nrm_length]⟩
@[simp] theorem toV_toList (n:Nat) (l:List Int):(toV n l).toList=nrm n l:=by simp [toV,Vector.toList]
theorem toV_of {l:List Int} (h:l.length=n):(toV n l).toList=l:=by rw [toV_toList,nrm_eq h]
@[simp] theorem toV_v (v:Vector Int n):toV n v.toList=v:=by
  apply Vector.toArray_inj.1
  show (nrm n v.toList).toArray=v.toArray
  rw [nrm_v]; simp [Vector.toList]
def cpV (v:Vector Int n) (lo:Nat) (m:List Int):Vector Int n:=toV n (v.toList.take lo++cpL (v.toList.drop lo) m)
theorem cpV_toList (v:Vector Int n) (lo:Nat) (m:List Int):(cpV v lo m).toList=v.toList.take lo++cpL (v.toList.drop lo) m:=
  toV_of (by rw [List.length_append,cpL_length,← List.length_append,List.take_append_drop]; simp)
def VSl (p:Addr) (off n:Nat) (lo:Int) (a:Option Addr) (c:Nat):Prop:=a=resl (some (p.add off)) n 1 lo∧c=n - lo.toNat
theorem sl_vec {off j:Nat} {v:Vector Int n} {lo hi:Int} {K:Sl→Prop} (hv:segAt ss j 0=some (off, .vec k n v)) (H:SlOk v.toList lo hi)
    (kk: ∀ a1 c1,VSl p off n lo a1 c1→Rd (rI k) (blk p T ss) a1 (sub v.toList lo hi).length c1 (sub v.toList lo hi)→K ⟨a1,(sub v.toList lo hi).length,c1⟩):slW ⟨some (p.add off),n,n⟩ lo hi 1 K:=by
  have hsl:=sub_length H
  have hln:v.toList.length=n:=by simp
  obtain ⟨h0,h1,h2⟩:=H
  rw [hln] at h2
  refine ⟨⟨by omega,by simp only; omega⟩,⟨h0,h1⟩, ?_⟩
  rw [← hsl]
  refine kk _ _ ⟨rfl,rfl⟩ fun {h F M} hP=>⟨rfl, ?_⟩
  obtain ⟨_,ws,g1,g2,g3⟩:=rd_vec (p:=p) (T:=T) hv hP
  obtain ⟨k1,k2⟩:=slv_sub g1 h0 h1 (by omega) g2
  exact ⟨_,by rw [hsl]; exact k1,by rw [hsl]; exact k2,g3.sub (by omega) (by omega)⟩
theorem vec_cells {v:Vector Int n} {ws:List Int} {lo:Nat} (h:lo+ws.length≤n):
    lumpV k n (toV n (v.toList.take lo++(ws++v.toList.drop (lo+ws.length)))).toList=(lumpV k n v.toList).take lo++(ws.map (Value.int k)++(lumpV k n v.toList).drop (lo+ws.length)):=by
  rw [lumpV_v,toV_of (by simp; omega),lumpV_v]
  simp
theorem cp_vec {off j:Nat} {v:Vector Int n} {lo:Int} {a1:Option Addr} {c1 len nm:Nat} {m:List Int} {K:Int→Hp→Prop} (hv:segAt ss j 0=some (off, .vec k n v)) (hs:VSl p off n lo a1 c1) (h0:0≤lo∧lo≤n) (hlen:len=n - lo.toNat)
    (hX:Rd (rI k) a' a2 nm c2 m) (I:Inv h (blk p T ss::a'::A))
    (kk: ∀ h',Inv h' (blk p T (ss.set j (.vec k n (cpV v lo.toNat m)))::a'::A)→K (min nm len:Nat) h'):cpW 1 h ⟨a1,len,c1⟩ ⟨a2,nm,c2⟩ K:=by
  obtain rfl:=rd_len hX I.swap
  obtain ⟨F,M,⟨F1,F2,eF,⟨hF,p0,p1,hb⟩,h3⟩,hFM,hnd,hlt,H⟩:=I.sepI.turn
  subst eF
  obtain ⟨_,us,g1,g2,g3⟩:=hX h3
  obtain rfl:=els_I.1 g3
  obtain ⟨e1,e2⟩:=segAt_split hv
  obtain ⟨_,hil⟩:=seg_set (t:= .vec k n v) hv rfl
  obtain ⟨rfl,rfl⟩:=hs
  have hl:(lumpV k n v.toList).length=n:=lumpV_length _ _ _
  let w:=m.take (min m.length len)
  have hw:w.length=min m.length len:=by simp only [w,List.length_take]; omega
  have hbnd:lo.toNat+w.length≤n:=by omega
  refine ⟨w.map (Value.int k), ?_, ?_⟩
  · have := (g1.take (i := min m.length len) (Nat.min_le_left _ _) c2).cellsAt
    simpa [w,List.map_take] using this
  have ecp:cpV v lo.toNat m=toV n (v.toList.take lo.toNat++(w++v.toList.drop (lo.toNat+w.length))):=by
    unfold cpV cpL
    have hdl:(v.toList.drop lo.toNat).length=len:=by simp; omega
    rw [hdl,List.drop_drop]
    have q1:m.take len=w:=by
      simp only [w]; rw [List.take_eq_take_iff]; omega
    have q2:v.toList.drop (lo.toNat+m.length)=v.toList.drop (lo.toNat+w.length):=by
      rw [hw]
      rcases Nat.le_total m.length len with h | h
      · rw [Nat.min_eq_left h]
      · rw [Nat.min_eq_right h,List.drop_eq_nil_of_le (by simp; omega),List.drop_eq_nil_of_le (by simp; omega)]
    rw [q1,q2]
  have fin: ∀ h',h'[p.block]? =some (.cells (segs (ss.set j (.vec k n (cpV v lo.toNat m)))).toArray T (0,0))→Keep [p.block] h h'→K (min m.length len:Nat) h':=by
    intro h' hb' hk
    obtain ⟨d1,d2,d3⟩:=List.nodup_append.1 hnd
    have hF2:=a'.lt h3
    refine kk h' (H h' [_,a'] [F1,F2] (hk.mono fun b hb=> .inl (by rw [hF]; simp at hb ⊢; exact .inl hb)) (fun b hb=> .inl (by rw [flat2] at hb; exact hb)) (by rw [flat2]; exact hnd) fun M' hL _ _=>⟨⟨hF,p0,p1,hb'⟩,a'.mono (fun b hb=>hk.2 b (hF2 b hb) fun e=> ?_) hL h3,trivial⟩)
    simp at e; subst e
    exact d3 p.block (by rw [hF]; simp) p.block hb rfl
  have hcells:segs ss=segs (ss.take j)++(lumpV k n v.toList++segs (ss.drop (j+1))):=by
    conv=>lhs; rw [e1,segs_append]
    rfl
  have hsplit:lumpV k n v.toList=(lumpV k n v.toList).take lo.toNat++(((lumpV k n v.toList).drop lo.toNat).take w.length++(lumpV k n v.toList).drop (lo.toNat+w.length)):=by
    rw [← List.drop_drop,List.take_append_drop,List.take_append_drop]
  have hres:segs (ss.set j (.vec k n (cpV v lo.toNat m)))=segs (ss.take j)++((lumpV k n v.toList).take lo.toNat++(w.map (Value.int k)++(lumpV k n v.toList).drop (lo.toNat+w.length))++segs (ss.drop (j+1))):=by
    rw [List.set_eq_take_append_cons_drop,if_pos hil,segs_append]
    simp only [segs,Seg.cells]
    rw [ecp,vec_cells hbnd]
  have go:stAll h ⟨p.block,off+lo.toNat,none⟩ 0 (w.map (Value.int k)) fun h'=>K (min m.length len:Nat) h':=by
    refine stAll_mid (T:=T) (z:=(0,0)) (w.map (Value.int k)) (((lumpV k n v.toList).drop lo.toNat).take w.length) h (segs (ss.take j)++(lumpV k n v.toList).take lo.toNat) ((lumpV k n v.toList).drop (lo.toNat+w.length)++segs (ss.drop (j+1))) 0 ?_ (by simp [hl]; omega)
      (by rw [List.length_append,segs_length,List.length_take,hl]; omega) (.inl (Nat.zero_le _)) (fun x hx=>by simp only [List.mem_map] at hx; obtain ⟨y,_,rfl⟩:=hx; rfl) fun h' hb' hk _=>fin h' ?_ hk
    · rw [hb, hcells]; congr 2
      conv=>lhs; rw [hsplit]
      simp only [List.append_assoc]
    · rw [hb', hres]
      simp only [List.append_assoc]
  unfold resl
  by_cases hc:n=lo.toNat
  · rw [if_pos hc]
    have hw0:w=[]:=List.length_eq_zero_iff.1 (by omega)
    show stAll h (p.add off) 0 (w.map (Value.int k)) _
    rw [hw0] at hres ⊢
    refine fin h ?_ (Keep.refl _ _)
    rw [hb,hres,hcells]
    simp
  · rw [if_neg hc]
    show stAll h ((p.add off).add (lo.toNat*1)) 0 (w.map (Value.int k)) _
    rw [add_add,add_eq p0 p1,Nat.mul_one]
    exact go
theorem vsl_full {off:Nat}:VSl p off n 0 (some (p.add off)) n:=by
  refine ⟨?_,by simp⟩
  unfold resl
  split
  · rfl
  · simp; exact (if_pos rfl).symm
theorem Inv.repV (I:Inv h A) (v:Vector Int n):Inv h (repA (rV k n) (lumpV k n v.toList) v::A):=I.rep fun _ _=>rfl
def b2sP (l:List Int) (K:ByteArray→Prop):Prop:= ∃ b:ByteArray,bts b=l∧K b
theorem b2s_r {nl:Nat} {l:List Int} {K':ByteArray→Prop} {K:(Hp→Prop)→ByteArray→Prop} (hX:Rd (rI .u8) a' a nl c l) (I:Inv h (a'::A)) (H:b2sP l K') (kk: ∀ f b,K' b→K f b):b2s h ⟨a,nl,c⟩ K:=by
  obtain rfl:=rd_len hX I
  obtain ⟨b,rfl,HK⟩:=H
  obtain ⟨F,M,hP⟩:=I.get
  obtain ⟨_,vs,g1,g2,g3⟩:=hX hP
  obtain rfl:=els_I.1 g3
  have e:(bts b).map (Value.int .u8)=byteVals b:=by simp [bts,byteVals]
  unfold b2s
  cases a with
  | none =>
    have h2:=g1.2
    simp only at h2
    have hb:b= .empty:=by
      have:(bts b)=[]:=by simpa using h2
      cases b; simp [bts] at this; subst this; rfl
    subst hb
    exact kk _ _ HK
  | some x =>
    have h3:=g1.cellsAt
    rw [e,Nat.mul_one] at h3
    exact ⟨b,h3,kk _ _ HK⟩
theorem s2b_r {b:ByteArray} {K:Sl→Hp→Prop} (I:Inv h A) (kk: ∀ a1 c1 h',Inv h' (ownS (rI .u8) a1 (bts b).length c1 (bts b)::A)→K ⟨a1,(bts b).length,c1⟩ h'):s2b T h b K:=by
  intro c hc
  have e:(bts b).map (Value.int .u8)=byteVals b:=by simp [bts,byteVals]
  have:=kk (some ⟨h.size,0,none⟩) c (h.push (.cells (byteVals b++List.replicate (c - b.size) (Value.int .u8 0)).toArray T (c,c+1))) ?_
  · simpa using this
  · obtain ⟨F, M, hF, _, _, _, H⟩ := I.emp_add.turn
    have hF:F=[]:=hF
    subst hF
    refine H _ [_] [[h.size]] (Keep.push _ _ _) (fun b hb=> .inr (by simp at hb; omega)) (by simp) fun M' _ _ _=>⟨⟨rfl,T,byteVals b,⟨by simp [byteVals],by simpa using hc,rfl,rfl,[],List.replicate (c - b.size) (Value.int .u8 0),(c,c+1),by simp,rfl, ?_, .inr (by simp)⟩,els_I.2 e.symm⟩,trivial⟩
    simp [byteVals]; omega
theorem stW_r {s:ByteArray} {lo hi:Int} {K' K:ByteArray→Prop} (H:stW s lo hi K') (kk: ∀ x,K' x→K x):stW s lo hi K:=⟨H.1,H.2.1,kk _ H.2.2⟩
def allOne (vs:List Value):Bool:=vs.all fun v=>v.oneCell'
theorem all_one {vs:List Value} (h:allOne vs=true): ∀ v ∈ vs,v.oneCell'=true:=by simpa [allOne] using h
theorem allOne_append (u v:List Value):allOne (u++v)=(allOne u && allOne v):=by simp [allOne]
theorem allOne_lump (k:IntKind) (n:Nat) (l:List Int):allOne (lumpV k n l)=true:=by
  simp only [allOne,List.all_eq_true,lumpV,List.mem_map]
  rintro v ⟨x,_,rfl⟩
  rfl
theorem sle_nil:SlE E h M none 0 []:=⟨[],SlV.nil _ _,Nat.le_refl _,fun h=>absurd rfl h,rfl⟩
theorem drop_zero (u v:List Value):(u++v).drop 0=u++v:=rfl
theorem drop_app {i:Nat} (u v:List Value) (h:u.length=i):(u++v).drop i=v:=by subst h; simp
theorem lfact_of {l:List Int} {r:List Value} (hc: ∀ j v,vs[j]? =some v→hcell h (p.add j)=some v) (off:Nat) (e:vs.drop off=lumpV k n l++r):lfact k n l (p.add off) h:=by
  intro j hj
  rw [add_add]
  refine hc _ _ ?_
  rw [← List.getElem?_drop,e,List.getElem?_append_left (by rw [lumpV_length]; exact hj),lump_get k n l j hj]
theorem head_blk {F G:List Nat} {Gs:List (List Nat)} (e:F=(G::Gs).flatten) (H:(blk p T ss).P h G M):p.block ∈ F∧p.off=0∧p.spot=none:=by
  obtain ⟨h1,h2,h3,_⟩:=H
  exact ⟨by rw [e,h1]; simp,h2,h3⟩
end Go.Pu
