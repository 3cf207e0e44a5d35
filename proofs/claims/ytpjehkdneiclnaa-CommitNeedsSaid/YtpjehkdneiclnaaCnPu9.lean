import Derived.Test.YtpjehkdneiclnaaCnPu8
import Derived.Test.YtpjehkdneiclnaaCnShT
set_option linter.unusedVariables false
set_option linter.unusedSimpArgs false
namespace Go.Pu
open Go Go.Wc
variable {X V:Type} {E:Rp X} {h:Hp} {A:List At} {a' b':At} {a a2:Option Addr} {c c2 T:Nat} {l m:List X} {p:Addr} {ss:List Seg}
theorem rd_cap {n c1:Nat} (hX:Rd E a' a n c l) (hc:l.length≤c1):Rd E a' a n c1 l:=fun hP=>by
  obtain ⟨e,vs,g1,g2,g3⟩:=hX hP
  exact ⟨e,vs,⟨g1.1,g1.2⟩,hc,g3⟩
theorem rd_empty {n c0 c1:Nat} {a1:Option Addr} {l0:List X} (hX:Rd E a' a n c0 l0):Rd E a' a1 0 c1 ([]:List X):=fun hP=>by
  refine ⟨rfl,[],⟨by simp, ?_⟩,Nat.zero_le _,rfl⟩
  cases a1 with
  | none=>rfl
  | some x=>exact ⟨fun h=>absurd rfl h,fun i hi=>absurd hi (by simp)⟩
theorem slx_rd {nl:Nat} {lo hi:Int} {K:Sl→Prop} (hX:Rd E a' a nl c l) (I:Inv h (a'::A)) (H:SlOk l lo hi)
    (k: ∀ a1,Rd E a' a1 (sub l lo hi).length (sub l lo hi).length (sub l lo hi)→K ⟨a1,(sub l lo hi).length,(sub l lo hi).length⟩):slX ⟨a,nl,c⟩ lo hi hi E.n K:=by
  obtain rfl:=rd_len hX I
  obtain ⟨F,M,hP⟩:=I.get
  obtain ⟨_,vs,g1,g2,g3⟩:=hX hP
  have hsl:=sub_length H
  obtain ⟨h0,h1,h2⟩:=H
  refine ⟨⟨by omega,by simp only; omega⟩,⟨by omega,Int.le_refl _⟩,⟨h0,h1⟩, ?_⟩
  rw [← hsl]
  refine k _ ?_
  by_cases e:hi.toNat=lo.toNat
  · have e2 : sub l lo hi = [] := List.length_eq_zero_iff.1 (by omega)
    rw [e2]
    exact rd_empty hX
  · rw [if_neg e]
    have:Rd E a' (resl a c E.n lo) (sub l lo hi).length (c - lo.toNat) (sub l lo hi):=rd_sub hX (n2:=(sub l lo hi).length) ⟨h0,h1,h2⟩ rfl
    unfold resl at this
    rw [if_neg (by omega)] at this
    exact rd_cap this (Nat.le_refl _)
theorem apF_r {bytes nl nm:Nat} {z:Value} {K:Sl→Hp→Prop} (hX:Rd E a' a nl nl l) (hY:Rd E b' a2 nm c2 m) (I:Inv h (a'::b'::A)) (hm:m ≠ []) (hz:z.cells.size=E.n) (hb:bytes ≠ 0) (hbb:bytes≤30000) (hl:Bnd (l.length+m.length))
    (k: ∀ a1 c1 h',Inv h' (ownS E a1 (l++m).length c1 (l++m)::a'::b'::A)→K ⟨a1,(l++m).length,c1⟩ h'):apW T E.n bytes z h ⟨a,nl,nl⟩ ⟨a2,nm,c2⟩ K:=by
  obtain rfl:=rd_len hX I
  obtain rfl:=rd_len hY I.pull1
  have I2:=(I.sepI).emp_add
  obtain ⟨F,M,⟨F1,F2,eF,hF1,F3,F4,eF2,h3,h4⟩,hFM,hnd,hlt,H⟩:=I2.sepI.turn
  obtain ⟨_,vs,g1,g2,g3⟩:=hX h3
  obtain ⟨_,ws,k1,k2,k3⟩:=hY h4
  have hpos:0<m.length:=List.length_pos_iff.2 hm
  refine ⟨ws,k1.cellsAt, ?_⟩
  unfold apV
  rw [if_neg (by simp only; omega)]
  refine ⟨hb,Nat.le_trans (Nat.mul_le_mul_right _ (nextcap _ _ (by simp only; omega))) (ap_bound hl hbb),vs,g1.cellsAt,fun cc hc=> ?_⟩
  have e:(l.length+m.length)=(l++m).length:=by simp
  simp only at hc
  have hlen:=g3.len
  have hlen2:=k3.len
  have hzl:(zeros z (cc - (l.length+m.length))).length=cc*E.n - (l.length+m.length)*E.n:=by rw [zeros_len,hz,Nat.sub_mul]
  have hmul:(l.length+m.length)*E.n≤cc*E.n:=Nat.mul_le_mul_right _ hc
  show K ⟨_,l.length+m.length,cc⟩ _
  have hF1:F1=[]:=hF1
  subst hF1
  simp only [List.nil_append] at eF
  subst eF eF2
  have J:=H (h.push (.cells (vs++ws++zeros z (cc - (l.length+m.length))).toArray T (0,0))) [ownS E (some ⟨h.size,0,none⟩) (l++m).length cc (l++m),a',b'] [[h.size],F3,F4] (Keep.push _ _ _)
    (fun b hb=>by
      simp only [List.flatten_cons,List.flatten_nil,List.append_nil,List.mem_append,List.mem_singleton] at hb
      rcases hb with rfl | hb
      · exact .inr (Nat.le_refl _)
      · exact .inl (List.mem_append.2 hb))
    (by
      simp only [List.flatten_cons,List.flatten_nil,List.append_nil]
      refine List.nodup_append.2 ⟨by simp,hnd,fun x hx y hy e=> ?_⟩
      simp at hx; subst hx e
      have:=hlt _ (hFM _ hy)
      omega)
    fun M' hL _ _=>⟨⟨rfl,T,vs++ws,⟨?_,by simpa using hc,rfl,rfl,[],zeros z (cc - (l.length+m.length)),(0,0),by simp,rfl, ?_, .inl (Nat.le_refl _)⟩,(g3.mono hL).append (k3.mono hL)⟩,a'.mono (fun b hb=>(Keep.push [] h _).2 b (a'.lt h3 b hb) (by simp)) hL h3,b'.mono (fun b hb=>(Keep.push [] h _).2 b (b'.lt h4 b hb) (by simp)) hL h4,trivial⟩
  · have := k _ _ _ J
    rw [e]
    rw [← e] at this ⊢
    exact this
  · simp [hlen,hlen2,Nat.add_mul]
  · simp only [List.length_append, hzl, hlen, hlen2]
    rw [Nat.add_mul] at hmul ⊢
    omega
theorem cp_self {k:IntKind} {n:Nat} {off j:Nat} {v:Vector Int n} {lo:Int} {a1:Option Addr} {c1 len nm:Nat} {m:List Int} {K:Int→Hp→Prop} (hv:segAt ss j 0=some (off, .vec k n v)) (hs:VSl p off n lo a1 c1) (h0:0≤lo∧lo≤n) (hlen:len=n - lo.toNat)
    (hX:Rd (rI k) (blk p T ss) a2 nm c2 m) (I:Inv h (blk p T ss::A))
    (kk: ∀ h',Inv h' (blk p T (ss.set j (.vec k n (cpV v lo.toNat m)))::A)→K (min nm len:Nat) h'):cpW 1 h ⟨a1,len,c1⟩ ⟨a2,nm,c2⟩ K:=by
  obtain rfl:=rd_len hX I
  obtain ⟨F,M,⟨hF,p0,p1,hb⟩,hFM,hnd,hlt,H⟩:=I.turn
  obtain ⟨_,us,g1,g2,g3⟩:=hX (h:=h) (F:=F) (M:=M) ⟨hF,p0,p1,hb⟩
  obtain rfl:=els_I.1 g3
  obtain ⟨e1,e2⟩:=segAt_split hv
  obtain ⟨_,hil⟩:=seg_set (t:= .vec k n v) hv rfl
  obtain ⟨rfl,rfl⟩:=hs
  have hl:(lumpV k n v.toList).length=n:=lumpV_length _ _ _
  let w:=m.take (min m.length len)
  have hw:w.length=min m.length len:=by simp only [w,List.length_take]; omega
  have hbnd:lo.toNat+w.length≤n:=by omega
  refine ⟨w.map (Value.int k), ?_, ?_⟩
  · have := (g1.take (i := min m.length len) (Nat.min_le_left _ _) c2).cellsAt
    simpa [w,List.map_take] using this
  have ecp:cpV v lo.toNat m=toV n (v.toList.take lo.toNat++(w++v.toList.drop (lo.toNat+w.length))):=by
    unfold cpV cpL
    have hdl:(v.toList.drop lo.toNat).length=len:=by simp; omega
    rw [hdl,List.drop_drop]
    have q1:m.take len=w:=by
      simp only [w]; rw [List.take_eq_take_iff]; omega
    have q2:v.toList.drop (lo.toNat+m.length)=v.toList.drop (lo.toNat+w.length):=by
      rw [hw]
      rcases Nat.le_total m.length len with h | h
      · rw [Nat.min_eq_left h]
      · rw [Nat.min_eq_right h,List.drop_eq_nil_of_le (by simp; omega),List.drop_eq_nil_of_le (by simp; omega)]
    rw [q1,q2]
  have fin: ∀ h',h'[p.block]? =some (.cells (segs (ss.set j (.vec k n (cpV v lo.toNat m)))).toArray T (0,0))→Keep [p.block] h h'→K (min m.length len:Nat) h':=by
    intro h' hb' hk
    exact kk h' (H h' [_] [F] (hk.mono fun b hb=> .inl (by rw [hF]; exact hb)) (fun b hb=> .inl (by simpa using hb)) (by simpa using hnd) fun M' hL _ _=>⟨⟨hF,p0,p1,hb'⟩,trivial⟩)
  have hcells:segs ss=segs (ss.take j)++(lumpV k n v.toList++segs (ss.drop (j+1))):=by
    conv=>lhs; rw [e1,segs_append]
    rfl
  have hsplit:lumpV k n v.toList=(lumpV k n v.toList).take lo.toNat++(((lumpV k n v.toList).drop lo.toNat).take w.length++(lumpV k n v.toList).drop (lo.toNat+w.length)):=by
    rw [← List.drop_drop,List.take_append_drop,List.take_append_drop]
  have hres:segs (ss.set j (.vec k n (cpV v lo.toNat m)))=segs (ss.take j)++((lumpV k n v.toList).take lo.toNat++(w.map (Value.int k)++(lumpV k n v.toList).drop (lo.toNat+w.length))++segs (ss.drop (j+1))):=by
    rw [List.set_eq_take_append_cons_drop,if_pos hil,segs_append]
    simp only [segs,Seg.cells]
    rw [ecp,vec_cells hbnd]
  have go:stAll h ⟨p.block,off+lo.toNat,none⟩ 0 (w.map (Value.int k)) fun h'=>K (min m.length len:Nat) h':=by
    refine stAll_mid (T:=T) (z:=(0,0)) (w.map (Value.int k)) (((lumpV k n v.toList).drop lo.toNat).take w.length) h (segs (ss.take j)++(lumpV k n v.toList).take lo.toNat) ((lumpV k n v.toList).drop (lo.toNat+w.length)++segs (ss.drop (j+1))) 0 ?_ (by simp [hl]; omega)
      (by rw [List.length_append,segs_length,List.length_take,hl]; omega) (.inl (Nat.zero_le _)) (fun x hx=>by simp only [List.mem_map] at hx; obtain ⟨y,_,rfl⟩:=hx; rfl) fun h' hb' hk _=>fin h' ?_ hk
    · rw [hb, hcells]; congr 2
      conv=>lhs; rw [hsplit]
      simp only [List.append_assoc]
    · rw [hb', hres]
      simp only [List.append_assoc]
  unfold resl
  by_cases hc:n=lo.toNat
  · rw [if_pos hc]
    have hw0:w=[]:=List.length_eq_zero_iff.1 (by omega)
    show stAll h (p.add off) 0 (w.map (Value.int k)) _
    rw [hw0] at hres ⊢
    refine fin h ?_ (Keep.refl _ _)
    rw [hb,hres,hcells]
    simp
  · rw [if_neg hc]
    show stAll h ((p.add off).add (lo.toNat*1)) 0 (w.map (Value.int k)) _
    rw [add_add,add_eq p0 p1,Nat.mul_one]
    exact go
theorem vel_keep {k:IntKind} {n:Nat} {i:Int} {off j:Nat} {v:Vector Int n} {q:Addr} {x:Int} (I:Inv h (blk p T ss::A)) (hv:segAt ss j 0=some (off, .vec k n v)) (hq:VAdr p off i q) (hb:0≤i∧i<n) (hg:v.toList[i.toNat]? =some x):
    hcell h q=some (.int k x):=by
  have key:ixW (some (p.add off)) n i 1 fun q'=>q'=q→hcell h q'=some (.int k x):=by
    refine ix_vec (K':=fun y=>y=x) I hv ⟨hb.1,x,hg,rfl⟩ fun q' y hq' hb' hc e he=> ?_
    subst e; exact hc
  obtain ⟨a,e1,e2,e3⟩:=key
  cases e1
  unfold VAdr at hq
  subst hq
  exact e3 rfl
theorem withB {φ:Prop} (b:Bool) (k: ∀ v,v=b→φ):φ:=k b rfl
def sortK (L:Option (List (Int × V))):List Int:=((L.getD []).map (·.1)).mergeSort fun x y=>decide (x≤y)
def sortKP (L:Option (List (Int × V))) (Q:List Int→Prop):Prop:=((L.getD []).length≤4294967296∧ ∀ x ∈ (L.getD []).map (·.1),IntKind.min .i64≤x∧x≤IntKind.max .i64)∧Q (sortK L)
theorem all2_keys {Ev:Rp V} {agg:Bool} {M:List Nat}: ∀ {es:List MapEntry} {L:List (Int × V)},All2 (entR (kI .i64) Ev agg h M) es L→es.map (·.key)=(L.map (·.1)).map (Value.int .i64)
  | _,_, .nil=>rfl
  | e :: es, (k, x) :: L, .cons ⟨h1, _⟩ h2 => by
    simp only [List.map_cons,all2_keys h2]
    rw [h1]
theorem sortK_r {ρ : Ids} {gs : List Nat} {k : Nat} {Ev : Rp V} {agg : Bool} {mm : Option Nat} {o : Option (Array MapEntry × Nat)} {L : Option (List (Int × V))} {Q' : List Int → Prop} {Q : Sl → Hp → Prop} (hk : k ∈ gs)
    (I:Inv h (blk p T [.one (.map mm)]::mapX (kI .i64) Ev agg mm o L::A)) (H:sortKP L Q')
    (kk: ∀ (r:List Int) (ra:Option Addr) (rc:Nat) (h':Hp),Inv h' (ownS (rI .i64) ra r.length rc r::blk p T [.one (.map mm)]::mapX (kI .i64) Ev agg mm o L::A)→Q' r→Q ⟨ra,r.length,rc⟩ h'):
    Tx.slices_Sorted_int gs ρ (.func (.func (ρ.G k)) #[] #[.pointer (some p)]) h Q:=by
  have I2:=(I.sepI).emp_add
  obtain ⟨F,M,⟨F1,F2,eF,hF1,F3,F4,eF2,h3,h4⟩,hFM,hnd,hlt,HH⟩:=I2.sepI.turn
  have hF1:F1=[]:=hF1
  subst hF1
  simp only [List.nil_append] at eF
  subst eF eF2
  have h3':=h3
  obtain ⟨b1,b2,b3,b4⟩:=h3
  have ep:p=⟨p.block,0,none⟩:=by obtain ⟨x,y,z⟩:=p; simp only at b2 b3; subst b2 b3; rfl
  have hcell0:hcell h ⟨p.block,0,none⟩=some (.map mm):=by unfold hcell; rw [b4]; rfl
  have fin: ∀ (h':Hp) (ks:List Int) (s:Sl),h.size≤h'.size→(∀ b,b<h.size→h'[b]? =h[b]?)→Tx.sortedOut h h' s ks→Q' ks→Q s h':=by
    intro h' ks s hs hb ho hQ
    have hkeep: ∀ F,Keep F h h':=fun F=>⟨hs,fun b hb' _=>hb b hb'⟩
    rcases ho with ⟨rfl,rfl⟩ | ⟨g,cap,T',cur,rfl,hg,hgc,c1,c2,c3⟩
    · refine kk [] none 0 h' ?_ hQ
      refine HH h' [ownS (rI .i64) none ([]:List Int).length 0 [],blk p T [.one (.map mm)],mapX (kI .i64) Ev agg mm o L] [[],F3,F4] (hkeep _) (fun b hb=> .inl (by simpa using hb)) (by simpa using hnd) fun M' hL _ _=>
        ⟨⟨rfl,0,[],Own.nil _ _ _,rfl⟩,At.mono _ (fun b hb'=>hb b (At.lt _ h3' b hb')) hL h3',At.mono _ (fun b hb'=>hb b (At.lt _ h4 b hb')) hL h4,trivial⟩
    · refine kk ks (some ⟨g, 0, none⟩) cap h' ?_ hQ
      refine HH h' [ownS (rI .i64) (some ⟨g,0,none⟩) ks.length cap ks,blk p T [.one (.map mm)],mapX (kI .i64) Ev agg mm o L] [[g],F3,F4] (hkeep _) (fun b hb=> ?_) ?_ fun M' hL _ _=>
        ⟨⟨rfl,T',ks.map (Value.int .i64),⟨by simp [rI],c1,rfl,rfl,[],cur.toList.drop ks.length,(0,0), ?_,rfl, ?_, .inl (Nat.le_refl _)⟩,els_I.2 rfl⟩,At.mono _ (fun b hb'=>hb b (At.lt _ h3' b hb')) hL h3',At.mono _ (fun b hb'=>hb b (At.lt _ h4 b hb')) hL h4,trivial⟩
      · simp only [List.flatten_cons, List.flatten_nil, List.append_nil, List.mem_append, List.mem_singleton] at hb
        rcases hb with rfl | hb
        · exact .inr hg
        · exact .inl (List.mem_append.2 hb)
      · simp only [List.flatten_cons, List.flatten_nil, List.append_nil]
        refine List.nodup_append.2 ⟨by simp,hnd,fun x hx y hy e=> ?_⟩
        simp at hx; subst hx e
        have:=hlt _ (hFM _ hy)
        omega
      · rw [hgc,List.nil_append,← c3,List.take_append_drop]
      · have : cur.toList.length = cap := by simpa using c2
        simp only [List.length_map,List.length_drop,this,rI]
        omega
  obtain ⟨⟨hlen,hwf⟩,HQ⟩:=H
  refine ⟨k,p.block,mm,hk,by rw [← ep],hcell0, ?_⟩
  match mm,o,L,h4,HQ,hlen,hwf,fin with
  | none, none, none, _, HQ, _, _, fin =>
    intro h' hs hb
    exact fin h' [] _ hs hb (.inl ⟨rfl,rfl⟩) (by simpa [sortK] using HQ)
  | some r, some (es, ck), some L, ⟨q1, q2, q3, q4⟩, HQ, hlen, hwf, fin =>
    refine ⟨es,ck,L.map (·.1),q2,q4,by simpa using hlen,all2_keys q3,hwf,fun h' s hs hb ho=>fin h' _ s hs hb ho (show Q' ((L.map (·.1)).mergeSort fun x y=>decide (x≤y)) from HQ)⟩
  | none,none,some _,hm,_,_,_,_=>exact (hm:False).elim
  | none,some _,none,hm,_,_,_,_=>exact (hm:False).elim
  | none,some _,some _,hm,_,_,_,_=>exact (hm:False).elim
  | some _,none,none,hm,_,_,_,_=>exact (hm:False).elim
  | some _,none,some _,hm,_,_,_,_=>exact (hm:False).elim
  | some _,some _,none,hm,_,_,_,_=>exact (hm:False).elim
end Go.Pu
