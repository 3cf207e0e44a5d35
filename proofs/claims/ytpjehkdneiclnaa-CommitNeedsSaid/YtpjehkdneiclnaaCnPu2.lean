import Derived.Test.YtpjehkdneiclnaaCnPu1
set_option linter.unusedSimpArgs false
set_option linter.unusedVariables false
namespace Go.Pu
open Go Go.Wc
variable {X:Type} {E:Rp X} {h h':Hp} {M M':List Nat} {vs ws:List Value} {l m:List X} {A:List At} {a a2:Option Addr} {c c2 T:Nat} {a':At}
abbrev Bnd (n:Nat):Prop:=n≤4294967296
theorem flat1 (F:List Nat):[F].flatten=F:=by simp
theorem flat2 (F G:List Nat):[F,G].flatten=F++G:=by simp
theorem stE_r {n : Nat} {i : Int} {x : X} {p : Addr} {K : Hp → Prop} (I : Inv h (repA E ws x :: ownS E a n c l :: A)) (e : EAdr a E.n i p) (hi : 0 ≤ i ∧ i < l.length)
    (k: ∀ h',Inv h' (ownS E a n c (l.set i.toNat x)::A)→K h'):stAll h p 0 ws K:=by
  obtain ⟨F,M,⟨F1,F2,eF,⟨e1,hw⟩,en,T,vs,h1,h2⟩,hFM,hn,hlt,H⟩:=I.sepI.turn
  subst e1
  obtain ⟨y,rfl,rfl⟩:=e
  obtain ⟨g1,g2,g3⟩:=h1
  obtain ⟨b,o,sp⟩:=y
  obtain ⟨hf,hs,pre,post,z,hb,hp,hl,hz⟩:=g3
  simp only at hs hb hp hf hz g1 hl; subst hs
  have hin:i.toNat<l.length:=by omega
  have hm:(i.toNat+1)*E.n≤l.length*E.n:=Nat.mul_le_mul_right _ hin
  have hm1:(i.toNat+1)*E.n=i.toNat*E.n+E.n:=by rw [Nat.add_mul,Nat.one_mul]
  have hwl:=E.len hw
  have hcap:l.length*E.n≤c*E.n:=Nat.mul_le_mul_right _ g2
  rw [add_mk]
  refine stAll_mid (T:=T) (z:=z) ws ((vs.drop (i.toNat*E.n)).take E.n) h (pre++vs.take (i.toNat*E.n)) (vs.drop ((i.toNat+1)*E.n)++post) 0 ?_ (by simp; omega) (by simp; omega) (by omega) (E.one hw) fun h' hb' k' hs'=> ?_
  · rw [hb]
    congr 2
    simp only [List.append_assoc]
    rw [hm1,← List.drop_drop]
    conv=>lhs; rw [← List.take_append_drop (i.toNat*E.n) vs,← List.take_append_drop E.n (vs.drop (i.toNat*E.n))]
    simp only [List.append_assoc]
  · have hF : F = [b] := by rw [eF, hf]; rfl
    refine k h' (H h' [_] [[b]] (by rw [hF]; exact k') (fun b hb=> .inl (by rw [hF]; simpa using hb)) (by simp) fun M' hL _ _=>⟨⟨by rw [List.length_set]; exact en,T,_,⟨?_, ?_, ?_⟩,(h2.mono hL).set hin (E.mono hL hw)⟩,trivial⟩)
    · have := ((h2.mono hL).set hin (E.mono hL hw)).len
      exact this
    · simpa using g2
    · refine ⟨rfl, rfl, pre, post, z, ?_, hp, ?_, hz⟩
      · rw [hb']; simp only [List.append_assoc]
      · simp only [List.length_append, List.length_take, List.length_drop, hwl]
        omega
theorem st1_r {n:Nat} {i:Int} {x:X} {p:Addr} {v:Value} {K:Hp→Prop} (I:Inv h (repA E [v] x::ownS E a n c l::A)) (e:EAdr a E.n i p) (hi:0≤i∧i<l.length)
    (k: ∀ h',Inv h' (ownS E a n c (l.set i.toNat x)::A)→K h'):st h (p.add 0) v K:=by
  have:=stE_r I e hi k
  simp only [stAll,stV] at this
  split at this
  · exact this.elim
  · exact this.elim
  · exact this
theorem Inv.rep {x:X} (I:Inv h A) (H: ∀ h M,E.P h M vs x):Inv h (repA E vs x::A):=I.addP fun M _=>⟨rfl,H h M⟩
theorem Inv.repI {k:IntKind} (I:Inv h A) (n:Int):Inv h (repA (rI k) [.int k n] n::A):=I.rep fun _ _=>rfl
theorem Inv.repB (I:Inv h A) (n:Bool):Inv h (repA rB [.bool n] n::A):=I.rep fun _ _=>rfl
theorem Inv.repT (I:Inv h A) (n:ByteArray):Inv h (repA rT [.string n] n::A):=I.rep fun _ _=>rfl
theorem Inv.repP (I:Inv h A) (n:Option Addr):Inv h (repA rP [.pointer n] n::A):=I.rep fun _ _=>rfl
theorem Inv.repSl {n:Nat} (I:Inv h (roS E a n c l::A)):Inv h (repA (rS E) [.slice a n c] l::A):=I.conv fun _ _ ⟨e,en,h⟩=>⟨e,a,c,by rw [en],h⟩
theorem ap_bound {n b:Nat} (hl:Bnd n) (hb:b≤30000):(2*n+192)*b≤2 ^ 48:=by
  have:(2*n+192)*b≤(2*4294967296+192)*30000:=Nat.mul_le_mul (by unfold Bnd at hl; omega) hb
  have e:(2:Nat) ^ 48=281474976710656:=by decide
  omega
theorem apV_own' {T' m bytes:Nat} {z:Value} {s:Sl} {n:Nat} {vs ws:List Value} {F:List Nat} {Q:Sl→Hp→Prop} (hO:Own h s T' m vs F) (hw:ws.length=n*m)
    (h1: ∀ v ∈ ws,v.oneCell'=true) (hz:z.cells.size=m) (hb:bytes ≠ 0) (hbd:(2*(s.len+n)+192)*bytes≤2 ^ 48)
    (k: ∀ s' h' F' T2,Own h' s' T2 m (vs++ws) F'→s'.len=s.len+n→Keep F h h'→(∀ b ∈ F',b ∈ F∨h.size≤b)→Q s' h'):apV T m bytes z h s n ws Q:=by
  have key:=apV_own (T:=T') (Q:=Q) hO hw h1 hz hb hbd fun s' h' F' hO' hl hk hF _=>k s' h' F' T' hO' hl hk hF
  unfold apV at key ⊢
  by_cases hc:s.len+n≤s.cap
  · rw [if_pos hc] at key ⊢; exact key
  · rw [if_neg hc]
    refine ⟨hb, ?_,vs,hO.slv.cellsAt,fun c hcge=> ?_⟩
    · exact Nat.le_trans (Nat.mul_le_mul_right _ (nextcap _ _ (by omega))) hbd
    · have o1 := hO.1
      have hlen:(zeros z (c - (s.len+n))).length=c*m - (s.len+n)*m:=by rw [zeros_len,hz,Nat.sub_mul]
      have hmul:(s.len+n)*m≤c*m:=Nat.mul_le_mul_right _ hcge
      refine k _ _ [h.size] T ⟨by simp [o1,hw,Nat.add_mul],hcge,rfl,rfl,[],zeros z (c - (s.len+n)),(0,0),by simp,rfl, ?_, .inl (Nat.le_refl _)⟩ rfl (Keep.push _ _ _) (fun b hb=> .inr (by simp at hb; omega))
      simp only [List.length_append,hlen]
      rw [Nat.add_mul] at hmul ⊢
      omega
theorem apV_r {bytes nl:Nat} {z:Value} {K:Sl→Hp→Prop} {n:Nat} (I:Inv h (ownS E a nl c l::a'::A)) (hn:n=m.length) (hm: ∀ {F M},a'.P h F M→Els E h M ws m) (hz:z.cells.size=E.n) (hb:bytes ≠ 0) (hbb:bytes≤30000) (hl:Bnd (l.length+m.length))
    (k: ∀ a1 c1 h',Inv h' (ownS E a1 (l++m).length c1 (l++m)::a'::A)→K ⟨a1,(l++m).length,c1⟩ h'):apV T E.n bytes z h ⟨a,nl,c⟩ n ws K:=by
  subst hn
  obtain rfl:=own_len I
  obtain ⟨F,M,⟨F1,F2,eF,⟨_,T',vs,h1,h2⟩,h3⟩,hFM,hnd,hlt,H⟩:=I.sepI.turn
  subst eF
  have hels:=hm h3
  refine apV_own' h1 (by rw [hels.len]) hels.one hz hb (ap_bound hl hbb) fun s' h' F' T2 hO hl' hk hF'=> ?_
  obtain ⟨a1,n1,c1⟩:=s'
  have hl':n1=l.length+m.length:=hl'
  rw [← List.length_append] at hl'
  subst hl'
  obtain ⟨d1,d2,d3⟩:=List.nodup_append.1 hnd
  have hF2:=a'.lt h3
  have nd':F'.Nodup:=by
    cases a1 with
    | none=>obtain ⟨_,e⟩:=hO.2.2; rw [e]; simp
    | some x=>obtain ⟨e,_⟩:=hO.2.2; rw [e]; simp
  have hd': ∀ x ∈ F',∀ y ∈ F2,x ≠ y:=fun x hx y hy e=>by
    subst e
    rcases hF' x hx with h5 | h5
    · exact d3 x h5 x hy rfl
    · have:=hF2 x hy; omega
  refine k a1 c1 h' (H h' [_,a'] [F',F2] (hk.mono fun b hb=> .inl (by simp [hb])) (fun b hb=> ?_) ?_ fun M' hL _ _=>⟨⟨rfl,T2,_,hO,(h2.mono hL).append (hels.mono hL)⟩,a'.mono (fun b hb=>hk.2 b (hF2 b hb) fun e=>d3 b e b hb rfl) hL h3,trivial⟩)
  · rw [flat2] at hb
    rcases List.mem_append.1 hb with hb | hb
    · exact (hF' b hb).imp (fun h=>by simp [h]) id
    · exact .inl (by simp [hb])
  · rw [flat2, List.nodup_append]
    exact ⟨nd',d2,hd'⟩
theorem ap_r {bytes nl nm:Nat} {z:Value} {K:Sl→Hp→Prop} (hX:Rd E a' a2 nm c2 m) (I:Inv h (ownS E a nl c l::a'::A)) (hz:z.cells.size=E.n) (hb:bytes ≠ 0) (hbb:bytes≤30000) (hl:Bnd (l.length+m.length))
    (k: ∀ a1 c1 h',Inv h' (ownS E a1 (l++m).length c1 (l++m)::a'::A)→K ⟨a1,(l++m).length,c1⟩ h'):apW T E.n bytes z h ⟨a,nl,c⟩ ⟨a2,nm,c2⟩ K:=by
  obtain rfl:=rd_len hX I.swap
  obtain ⟨F,M,h3⟩:=(I.swap).get
  obtain ⟨_,ws,g1,g2,g3⟩:=hX h3
  refine ⟨ws,g1.cellsAt,apV_r I rfl (fun {F M} h3=> ?_) hz hb hbb hl k⟩
  obtain ⟨_,ws',g1',g2',g3'⟩:=hX h3
  have:=cellsAt_unique g1.cellsAt g1'.cellsAt
  exact this ▸ g3'
def bts (s:ByteArray):List Int:=s.data.toList.map fun b=>(b.toNat:Int)
@[simp] theorem bts_length (s:ByteArray):(bts s).length=s.size:=by simp [bts]
theorem apT_r {l:List Int} {bytes nl:Nat} {z:Value} {s:ByteArray} {K:Sl→Hp→Prop} (I:Inv h (ownS (rI .u8) a nl c l::A)) (hz:z.cells.size=1) (hb:bytes ≠ 0) (hbb:bytes≤30000) (hl:Bnd (l.length+(bts s).length))
    (k: ∀ a1 c1 h',Inv h' (ownS (rI .u8) a1 (l++bts s).length c1 (l++bts s)::A)→K ⟨a1,(l++bts s).length,c1⟩ h'):apT T 1 bytes z h ⟨a,nl,c⟩ s K:=
  apV_r (E:=rI .u8) (m:=bts s) (a':=emp) I.emp_add.swap (by simp) (fun _=>els_I.2 (by simp [byteVals,bts])) hz hb hbb hl fun a1 c1 h' I=>k a1 c1 h' I.swap.drop1
theorem zeros_flat (z:Value) (n:Nat):zeros z n=(List.replicate n z.cells.toList).flatten:=rfl
theorem apZ_r {bytes nl:Nat} {z:Value} {z0:X} {n:Int} {K:Sl→Hp→Prop} (I:Inv h (ownS E a nl c l::A)) (hz: ∀ h M,E.P h M z.cells.toList z0) (hb:bytes ≠ 0) (hbb:bytes≤30000) (h0:0≤n) (hl:Bnd (l.length+n.toNat))
    (k: ∀ a1 c1 h',Inv h' (ownS E a1 (l++List.replicate n.toNat z0).length c1 (l++List.replicate n.toNat z0)::A)→K ⟨a1,(l++List.replicate n.toNat z0).length,c1⟩ h'):apZ T E.n bytes z h ⟨a,nl,c⟩ n K:=by
  obtain rfl:=own_len I
  have e1:(2:Nat) ^ 48=281474976710656:=by decide
  have e2:IntKind.i64.max=9223372036854775807:=by decide
  unfold Bnd at hl
  refine ⟨h0, ?_,by rw [e2]; simp only; omega, ?_⟩
  · obtain ⟨j, rfl⟩ := Int.eq_ofNat_of_zero_le h0
    have:j*bytes≤4294967296*30000:=Nat.mul_le_mul (by simp at hl; omega) hbb
    have e3:(2:Int) ^ 48=281474976710656:=by decide
    rw [e3]
    have:((j*bytes:Nat):Int)≤281474976710656:=by omega
    simpa using this
  · refine apV_r (m:=List.replicate n.toNat z0) (a':=emp) I.emp_add.swap (by simp) (fun _=>by rw [zeros_flat]; exact Els.repl (hz _ _) _) (by have:=E.len (hz h []); simpa using this) hb hbb (by simpa using hl) fun a1 c1 h' I=>k a1 c1 h' I.swap.drop1
theorem mk_r {bytes:Nat} {z:Value} {z0:X} {n:Int} {K:Sl→Hp→Prop} (I:Inv h A) (hz: ∀ h M,E.P h M z.cells.toList z0) (hbb:bytes≤30000) (hn:0≤n∧n≤4294967296)
    (k: ∀ a1 c1 h',Inv h' (ownS E a1 (List.replicate n.toNat z0).length c1 (List.replicate n.toNat z0)::A)→K ⟨a1,(List.replicate n.toNat z0).length,c1⟩ h'):mkW T E.n bytes z h n n K:=by
  obtain ⟨j,rfl⟩:=Int.eq_ofNat_of_zero_le hn.1
  have e2:IntKind.i64.max=9223372036854775807:=by decide
  have e3:(2:Int) ^ 48=281474976710656:=by decide
  refine ⟨⟨hn.1,Int.le_refl _, ?_⟩,by rw [e2]; omega, ?_⟩
  · have : j * bytes ≤ 4294967296 * 30000 := Nat.mul_le_mul (by omega) hbb
    rw [e3]
    have:((j*bytes:Nat):Int)≤281474976710656:=by omega
    simpa using this
  · have := k (some ⟨h.size, 0, none⟩) j (h.push (.cells (zeros z j).toArray T (0, 0))) ?_
    · simpa using this
    · obtain ⟨F, M, hF, _, _, _, H⟩ := I.emp_add.turn
      have hF:F=[]:=hF
      subst hF
      have hl:=E.len (hz h [])
      refine H _ [_] [[h.size]] (Keep.push _ _ _) (fun b hb=> .inr (by simp at hb; omega)) (by simp) fun M' _ _ _=>⟨⟨by simp,T,zeros z j, ?_,by rw [zeros_flat]; exact Els.repl (hz _ _) _⟩,trivial⟩
      have hzl:(zeros z j).length=j*E.n:=by rw [zeros_len,← hl]; simp
      have:=own_new (h:=h) (T:=T) (m:=E.n) (n:=j) hzl
      simpa using this
def sub (l:List X) (lo hi:Int):List X:=(l.take hi.toNat).drop lo.toNat
abbrev SlOk (l:List X) (lo hi:Int):Prop:=0≤lo∧lo≤hi∧hi≤l.length
theorem sub_length {l:List X} {lo hi:Int} (H:SlOk l lo hi):(sub l lo hi).length=hi.toNat - lo.toNat:=by
  unfold sub; simp; obtain ⟨h0,h1,h2⟩:=H; omega
abbrev resl (a:Option Addr) (c n:Nat) (lo:Int):Option Addr:=if c=lo.toNat then a else a.map (·.add (lo.toNat*n))
theorem add_block (x:Addr) (n:Nat):(x.add n).block=x.block:=by unfold Addr.add; split <;> rfl
theorem resl_block {n:Nat} {lo:Int} {x:Addr} (h:resl a c n lo=some x): ∃ y,a=some y∧y.block=x.block:=by
  unfold resl at h
  split at h
  · exact ⟨x,h,rfl⟩
  · cases a with
    | none=>cases h
    | some y=>simp at h; subst h; exact ⟨y,rfl,(add_block _ _).symm⟩
theorem slv_sub {n len:Nat} {lo hi:Int} (H:SlV h ⟨a,len,c⟩ n vs) (h0:0≤lo) (h1:lo≤hi) (h2:hi≤len) (hc:len≤c):
    SlV h ⟨resl a c n lo,hi.toNat - lo.toNat,c - lo.toNat⟩ n ((vs.take (hi.toNat*n)).drop (lo.toNat*n))∧hi.toNat - lo.toNat≤c - lo.toNat:=by
  have key:=slW_slv (K:=fun s=>s=⟨resl a c n lo,hi.toNat - lo.toNat,c - lo.toNat⟩→SlV h s n ((vs.take (hi.toNat*n)).drop (lo.toNat*n))∧s.len≤s.cap) H h0 h1 h2 hc (fun s hs _ hc _ _ e=>⟨hs,hc⟩)
  exact key.2.2 rfl
theorem sle_sub {lo hi:Int} (H:SlE E h M a c l) (hb:SlOk l lo hi):SlE E h M (resl a c E.n lo) (c - lo.toNat) (sub l lo hi):=by
  obtain ⟨vs,g1,g2,g3,g4⟩:=H
  obtain ⟨h0,h1,h2⟩:=hb
  obtain ⟨k1,k2⟩:=slv_sub g1 h0 h1 h2 g2
  have hsl:=sub_length (l:=l) ⟨h0,h1,h2⟩
  refine ⟨_,by rw [hsl]; exact k1,by rw [hsl]; exact k2,fun hne x hx=> ?_,g4.sub (by omega) (by omega)⟩
  obtain ⟨y,hy,e⟩:=resl_block hx
  rw [← e]
  exact g3 (by rintro rfl; simp at hne) y hy
theorem sl_step {lo hi:Int} {n:Nat} {K:Sl→Prop} (H:SlOk l lo hi) (hc:l.length≤c) (k:K ⟨resl a c n lo,(sub l lo hi).length,c - lo.toNat⟩):slW ⟨a,l.length,c⟩ lo hi n K:=by
  have hsl:=sub_length H
  obtain ⟨h0,h1,h2⟩:=H
  exact ⟨⟨by omega,by simp only; omega⟩,⟨h0,h1⟩,by rw [← hsl]; exact k⟩
theorem sl_rd {nl:Nat} {lo hi:Int} {K:Sl→Prop} (hX:Rd E a' a nl c l) (I:Inv h (a'::A)) (H:SlOk l lo hi) (k: ∀ a1 c1,Rd E a' a1 (sub l lo hi).length c1 (sub l lo hi)→K ⟨a1,(sub l lo hi).length,c1⟩):slW ⟨a,nl,c⟩ lo hi E.n K:=by
  obtain rfl:=rd_len hX I
  obtain ⟨F,M,hP⟩:=I.get
  obtain ⟨_,vs,g1,g2,g3⟩:=hX hP
  refine sl_step H g2 (k _ _ fun {h F M} hP=>⟨rfl, ?_⟩)
  obtain ⟨_,vs,g1,g2,g3⟩:=hX hP
  obtain ⟨h0,h1,h2⟩:=H
  obtain ⟨k1,k2⟩:=slv_sub g1 h0 h1 h2 g2
  have hsl:=sub_length (l:=l) ⟨h0,h1,h2⟩
  exact ⟨_,by rw [hsl]; exact k1,by rw [hsl]; exact k2,g3.sub (by omega) (by omega)⟩
theorem sl_ro {nl:Nat} {lo hi:Int} {K:Sl→Prop} (I:Inv h (roS E a nl c l::A)) (H:SlOk l lo hi) (k: ∀ a1 c1,Inv h (roS E a1 (sub l lo hi).length c1 (sub l lo hi)::A)→K ⟨a1,(sub l lo hi).length,c1⟩):slW ⟨a,nl,c⟩ lo hi E.n K:=by
  obtain rfl:=ro_len I
  obtain ⟨F,M,hF,_,vs,g1,g2,g3,g4⟩:=I.get
  exact sl_step H g2 (k _ _ (I.conv fun F M ⟨hF,_,hs⟩=>⟨hF,rfl,sle_sub hs H⟩))
theorem sl_own {nl:Nat} {lo hi:Int} {K:Sl→Prop} (I:Inv h (ownS E a nl c l::A)) (H:SlOk l lo hi) (k: ∀ a1 c1,Inv h (ownS E a1 (sub l lo hi).length c1 (sub l lo hi)::A)→K ⟨a1,(sub l lo hi).length,c1⟩):slW ⟨a,nl,c⟩ lo hi E.n K:=by
  obtain rfl:=own_len I
  obtain ⟨F,M,_,T,vs,g1,g2⟩:=I.get
  refine sl_step H g1.2.1 (k _ _ (I.conv fun F M ⟨_,T,vs,g1,g2⟩=>⟨rfl, ?_⟩))
  have hsl:=sub_length H
  obtain ⟨h0,h1,h2⟩:=H
  have key:=slW_own (K:=fun s=>s=⟨resl a c E.n lo,hi.toNat - lo.toNat,c - lo.toNat⟩→Own h s T E.n ((vs.take (hi.toNat*E.n)).drop (lo.toNat*E.n)) F) g1 h0 h1 h2 (fun s hs _ _ e=>hs)
  exact ⟨T,_,by rw [hsl]; exact key.2.2 rfl,g2.sub (by omega) (by omega)⟩
def cpL (l m:List X):List X:=m.take l.length++l.drop m.length
theorem cpL_length (l m:List X):(cpL l m).length=l.length:=by unfold cpL; simp; omega
theorem own_stAll {s : Sl} {n : Nat} {F : List Nat} {K : Hp → Prop} {us : List Value} (H : Own h s T n us F) (hw : ws.length ≤ us.length) (ho : ∀ v ∈ ws, v.oneCell' = true)
    (k: ∀ h',Own h' s T n (ws++us.drop ws.length) F→Keep F h h'→K h'):(match s.a with | some a=>stAll h a 0 ws K | none=>K h):=by
  have H0:=H
  obtain ⟨g1,g2,g3⟩:=H
  cases ha:s.a with
  | none =>
    rw [ha] at g3
    have : us = [] := List.length_eq_zero_iff.1 (by rw [g1]; have : s.len = 0 := by omega
                                                    rw [this]; simp)
    subst this
    obtain rfl:ws=[]:=List.length_eq_zero_iff.1 (by simpa using hw)
    exact k h (by simpa using H0) (Keep.refl _ _)
  | some y =>
    rw [ha] at g3
    obtain ⟨b,o,sp⟩:=y
    obtain ⟨hf,hs,pre,post,z,hb,hp,hl,hz⟩:=g3
    simp only at hs hb hp hf hz hl; subst hs
    have hcap:s.len*n≤s.cap*n:=Nat.mul_le_mul_right _ g2
    refine stAll_mid (T:=T) (z:=z) ws (us.take ws.length) h pre (us.drop ws.length++post) 0 ?_ (by simp; omega) (by omega) (by omega) ho fun h' hb' k' hs'=> ?_
    · rw [hb]; congr 2
      conv=>lhs; rw [← List.take_append_drop ws.length us]
      simp only [List.append_assoc]
    · refine k h' ⟨by simp; omega, g2, ?_⟩ (by rw [hf]; exact k')
      rw [ha]
      exact ⟨hf,rfl,pre,post,z,by rw [hb']; simp only [List.append_assoc],hp,by simp; omega,hz⟩
theorem cp_r {nl nm : Nat} {K : Int → Hp → Prop} (hX : Rd E a' a2 nm c2 m) (I : Inv h (ownS E a nl c l :: a' :: A)) (k : ∀ h', Inv h' (ownS E a nl c (cpL l m) :: a' :: A) → K (min nm nl : Nat) h') :
    cpW E.n h ⟨a,nl,c⟩ ⟨a2,nm,c2⟩ K:=by
  obtain rfl:=rd_len hX I.swap
  obtain rfl:=own_len I
  obtain ⟨F,M,⟨F1,F2,eF,⟨_,T',vs,h1,h2⟩,h3⟩,hFM,hnd,hlt,H⟩:=I.sepI.turn
  subst eF
  obtain ⟨_,ws,g1,g2,g3⟩:=hX h3
  have hwl:=g3.len
  have hvl:=h2.len
  have hmin:min m.length l.length*E.n≤ws.length:=by rw [hwl]; exact Nat.mul_le_mul_right _ (Nat.min_le_left _ _)
  have hmin2:min m.length l.length*E.n≤vs.length:=by rw [hvl]; exact Nat.mul_le_mul_right _ (Nat.min_le_right _ _)
  refine ⟨ws.take (min m.length l.length*E.n), ?_, ?_⟩
  · have := (g1.take (i := min m.length l.length) (Nat.min_le_left _ _) c2).cellsAt
    exact this
  · have key := own_stAll (K := fun h' => K (min m.length l.length : Nat) h') (ws := ws.take (min m.length l.length * E.n)) h1 (by rw [List.length_take]; omega) (fun v hv => g3.one v (List.mem_of_mem_take hv)) fun h' hO hk => ?_
    · exact key
    · obtain ⟨d1, d2, d3⟩ := List.nodup_append.1 hnd
      have hF2:=a'.lt h3
      have el:(cpL l m).length=l.length:=cpL_length l m
      refine k h' (H h' [_,a'] [F1,F2] (hk.mono fun b hb=> .inl (by simp [hb])) (fun b hb=> .inl (by rw [flat2] at hb; exact hb)) (by rw [flat2]; exact hnd) fun M' hL _ _=>⟨⟨el.symm,T',_,by rw [el]; exact hO, ?_⟩,a'.mono (fun b hb=>hk.2 b (hF2 b hb) fun e=>d3 b e b hb rfl) hL h3,trivial⟩)
      have hlt:(ws.take (min m.length l.length*E.n)).length=min m.length l.length*E.n:=by rw [List.length_take]; omega
      rw [hlt]
      have e1:m.take l.length=m.take (min m.length l.length):=by rw [List.take_eq_take_iff]; omega
      have e2:l.drop m.length=l.drop (min m.length l.length):=by
        rcases Nat.le_total m.length l.length with h | h
        · rw [Nat.min_eq_left h]
        · rw [Nat.min_eq_right h,List.drop_eq_nil_of_le h,List.drop_eq_nil_of_le (Nat.le_refl _)]
      unfold cpL
      rw [e1,e2]
      exact ((g3.take_drop _ (Nat.min_le_left _ _)).1.mono hL).append ((h2.take_drop _ (Nat.min_le_right _ _)).2.mono hL)
theorem cl_r {nl:Nat} {z:Value} {z0:X} {K:Hp→Prop} (I:Inv h (ownS E a nl c l::A)) (hz: ∀ h M,E.P h M z.cells.toList z0) (k: ∀ h',Inv h' (ownS E a nl c (List.replicate nl z0)::A)→K h'):
    clW z h ⟨a,nl,c⟩ K:=by
  obtain rfl:=own_len I
  obtain ⟨F,M,⟨_,T,vs,h1,h2⟩,hFM,hnd,hlt,H⟩:=I.turn
  have hvl:=h2.len
  have hE:=E.len (hz h M)
  have hzl:(zeros z l.length).length=l.length*E.n:=by rw [zeros_len,← hE]; simp
  have hrep: ∀ M',Els E h M' (zeros z l.length) (List.replicate l.length z0):=fun M'=>by rw [zeros_flat]; exact Els.repl (hz _ _) _
  have key:=own_stAll (K:=K) (ws:=zeros z l.length) h1 (by omega) (hrep M).one fun h' hO hk=> ?_
  · unfold clW
    cases a with
    | none=>exact key
    | some x=>exact key
  · refine k h' (H h' [_] [F] hk (fun b hb => .inl (by simpa using hb)) (by simpa using hnd) fun M' hL _ _ => ⟨⟨by simp, T, zeros z l.length, ?_, by rw [zeros_flat]; exact Els.repl (hz _ _) _⟩, trivial⟩)
    rw [List.drop_eq_nil_of_le (by omega),List.append_nil] at hO
    simpa using hO
end Go.Pu
