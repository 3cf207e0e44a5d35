import Derived.Test.YtpjehkdneiclnaaGreatCpA
import Derived.MapKept
set_option linter.unusedVariables false
set_option linter.unusedSimpArgs false
set_option maxHeartbeats 4000000
set_option maxRecDepth 100000
namespace Go.Pu
open Go Go.Wc
variable {X:Type} {E:Rp X} {h h':Hp} {M M':List Nat} {vs ws:List Value} {l m:List X} {A:List At} {a a2:Option Addr} {c c2 T:Nat} {a':At}
abbrev Bnd (n:Nat):Prop:=n≤4294967296
theorem sK (F G:List Nat):[F,G].flatten=F++G:=by simp
theorem IG {n : Nat} {i : Int} {x : X} {p : Addr} {K : Hp → Prop} (I : Inv h (repA E ws x :: ownS E a n c l :: A)) (e : EAdr a E.n i p) (hi : 0 ≤ i ∧ i < l.length)
    (k: ∀ h',Inv h' (ownS E a n c (l.set i.toNat x)::A)→K h'):stAll h p 0 ws K:=by
  obtain ⟨F,M,⟨F1,F2,eF,⟨e1,hw⟩,en,T,vs,h1,h2⟩,hFM,hn,hlt,H⟩:=I.sepI.turn
  subst e1
  obtain ⟨y,rfl,rfl⟩:=e
  obtain ⟨g1,g2,g3⟩:=h1
  obtain ⟨b,o,sp⟩:=y
  obtain ⟨hf,hs,pre,post,z,hb,hp,hl,hz⟩:=g3
  simp only at hs hb hp hf hz g1 hl; subst hs
  have hin:i.toNat<l.length:=by omega
  have hm:(i.toNat+1)*E.n≤l.length*E.n:=Nat.mul_le_mul_right _ hin
  have hm1:(i.toNat+1)*E.n=i.toNat*E.n+E.n:=by rw [Nat.add_mul,Nat.one_mul]
  have hwl:=E.len hw
  have hcap:l.length*E.n≤c*E.n:=Nat.mul_le_mul_right _ g2
  rw [jX]
  refine jD (T:=T) (z:=z) ws ((vs.drop (i.toNat*E.n)).take E.n) h (pre++vs.take (i.toNat*E.n)) (vs.drop ((i.toNat+1)*E.n)++post) 0 ?_ (by simp; omega) (by simp; omega) (by omega) (E.one hw) fun h' hb' k' hs'=> ?_
  · rw [hb]
    congr 2
    simp only [List.append_assoc]
    rw [hm1,← List.drop_drop]
    conv=>lhs; rw [← List.take_append_drop (i.toNat*E.n) vs,← List.take_append_drop E.n (vs.drop (i.toNat*E.n))]
    simp only [List.append_assoc]
  · have hF : F = [b] := by rw [eF, hf]; rfl
    refine k h' (H h' [_] [[b]] (by rw [hF]; exact k') (fun b hb=> .inl (by rw [hF]; simpa using hb)) (by simp) fun M' hL _ _=>⟨⟨by rw [List.length_set]; exact en,T,_,⟨?_, ?_, ?_⟩,(h2.mono hL).set hin (E.mono hL hw)⟩,trivial⟩)
    · have := ((h2.mono hL).set hin (E.mono hL hw)).len
      exact this
    · simpa using g2
    · refine ⟨rfl, rfl, pre, post, z, ?_, hp, ?_, hz⟩
      · rw [hb']; simp only [List.append_assoc]
      · simp only [List.length_append, List.length_take, List.length_drop, hwl]
        omega
theorem Inv.rep {x:X} (I:Inv h A) (H: ∀ h M,E.P h M vs x):Inv h (repA E vs x::A):=I.addP fun M _=>⟨rfl,H h M⟩
theorem Inv.repB (I:Inv h A) (n:Bool):Inv h (repA rB [.bool n] n::A):=I.rep fun _ _=>rfl
theorem Inv.repSl {n:Nat} (I:Inv h (roS E a n c l::A)):Inv h (repA (rS E) [.slice a n c] l::A):=I.conv fun _ _ ⟨e,en,h⟩=>⟨e,a,c,by rw [en],h⟩
theorem Ak {n b:Nat} (hl:Bnd n) (hb:b≤30000):(2*n+192)*b≤2 ^ 48:=by
  have:(2*n+192)*b≤(2*4294967296+192)*30000:=Nat.mul_le_mul (by unfold Bnd at hl; omega) hb
  have e:(2:Nat) ^ 48=281474976710656:=by decide
  omega
theorem IV {T' m bytes:Nat} {z:Value} {s:Sl} {n:Nat} {vs ws:List Value} {F:List Nat} {Q:Sl→Hp→Prop} (hO:Own h s T' m vs F) (hw:ws.length=n*m)
    (h1: ∀ v ∈ ws,v.oneCell'=true) (hz:z.cells.size=m) (hb:bytes ≠ 0) (hbd:(2*(s.len+n)+192)*bytes≤2 ^ 48)
    (k: ∀ s' h' F' T2,Own h' s' T2 m (vs++ws) F'→s'.len=s.len+n→Keep F h h'→(∀ b ∈ F',b ∈ F∨h.size≤b)→Q s' h'):apV T m bytes z h s n ws Q:=by
  have key:=LD (T:=T') (Q:=Q) hO hw h1 hz hb hbd fun s' h' F' hO' hl hk hF _=>k s' h' F' T' hO' hl hk hF
  unfold apV at key ⊢
  by_cases hc:s.len+n≤s.cap
  · rw [if_pos hc] at key ⊢; exact key
  · rw [if_neg hc]
    refine ⟨hb, ?_,vs,hO.slv.cellsAt,fun c hcge=> ?_⟩
    · exact Nat.le_trans (Nat.mul_le_mul_right _ (nextcap _ _ (by omega))) hbd
    · have o1 := hO.1
      have hlen:(zeros z (c - (s.len+n))).length=c*m - (s.len+n)*m:=by rw [lJ,hz,Nat.sub_mul]
      have hmul:(s.len+n)*m≤c*m:=Nat.mul_le_mul_right _ hcge
      refine k _ _ [h.size] T ⟨by simp [o1,hw,Nat.add_mul],hcge,rfl,rfl,[],zeros z (c - (s.len+n)),(0,0),by simp,rfl, ?_, .inl (Nat.le_refl _)⟩ rfl (Keep.push _ _ _) (fun b hb=> .inr (by simp at hb; omega))
      simp only [List.length_append,hlen]
      rw [Nat.add_mul] at hmul ⊢
      omega
theorem IW {bytes nl:Nat} {z:Value} {K:Sl→Hp→Prop} {n:Nat} (I:Inv h (ownS E a nl c l::a'::A)) (hn:n=m.length) (hm: ∀ {F M},a'.P h F M→Els E h M ws m) (hz:z.cells.size=E.n) (hb:bytes ≠ 0) (hbb:bytes≤30000) (hl:Bnd (l.length+m.length))
    (k: ∀ a1 c1 h',Inv h' (ownS E a1 (l++m).length c1 (l++m)::a'::A)→K ⟨a1,(l++m).length,c1⟩ h'):apV T E.n bytes z h ⟨a,nl,c⟩ n ws K:=by
  subst hn
  obtain rfl:=gp I
  obtain ⟨F,M,⟨F1,F2,eF,⟨_,T',vs,h1,h2⟩,h3⟩,hFM,hnd,hlt,H⟩:=I.sepI.turn
  subst eF
  have hels:=hm h3
  refine IV h1 (by rw [hels.len]) hels.one hz hb (Ak hl hbb) fun s' h' F' T2 hO hl' hk hF'=> ?_
  obtain ⟨a1,n1,c1⟩:=s'
  have hl':n1=l.length+m.length:=hl'
  rw [← List.length_append] at hl'
  subst hl'
  obtain ⟨d1,d2,d3⟩:=List.nodup_append.1 hnd
  have NC:=a'.lt h3
  have nd':F'.Nodup:=by
    cases a1 with
    | none=>obtain ⟨_,e⟩:=hO.2.2; rw [e]; simp
    | some x=>obtain ⟨e,_⟩:=hO.2.2; rw [e]; simp
  have hd': ∀ x ∈ F',∀ y ∈ F2,x ≠ y:=fun x hx y hy e=>by
    subst e
    rcases hF' x hx with h5 | h5
    · exact d3 x h5 x hy rfl
    · have:=NC x hy; omega
  refine k a1 c1 h' (H h' [_,a'] [F',F2] (hk.mono fun b hb=> .inl (by simp [hb])) (fun b hb=> ?_) ?_ fun M' hL _ _=>⟨⟨rfl,T2,_,hO,(h2.mono hL).append (hels.mono hL)⟩,a'.mono (fun b hb=>hk.2 b (NC b hb) fun e=>d3 b e b hb rfl) hL h3,trivial⟩)
  · rw [sK] at hb
    rcases List.mem_append.1 hb with hb | hb
    · exact (hF' b hb).imp (fun h=>by simp [h]) id
    · exact .inl (by simp [hb])
  · rw [sK, List.nodup_append]
    exact ⟨nd',d2,hd'⟩
theorem Ad {bytes nl nm:Nat} {z:Value} {K:Sl→Hp→Prop} (hX:Rd E a' a2 nm c2 m) (I:Inv h (ownS E a nl c l::a'::A)) (hz:z.cells.size=E.n) (hb:bytes ≠ 0) (hbb:bytes≤30000) (hl:Bnd (l.length+m.length))
    (k: ∀ a1 c1 h',Inv h' (ownS E a1 (l++m).length c1 (l++m)::a'::A)→K ⟨a1,(l++m).length,c1⟩ h'):apW T E.n bytes z h ⟨a,nl,c⟩ ⟨a2,nm,c2⟩ K:=by
  obtain rfl:=fD hX I.swap
  obtain ⟨F,M,h3⟩:=(I.swap).get
  obtain ⟨_,ws,g1,g2,g3⟩:=hX h3
  refine ⟨ws,g1.cellsAt,IW I rfl (fun {F M} h3=> ?_) hz hb hbb hl k⟩
  obtain ⟨_,ws',g1',g2',g3'⟩:=hX h3
  have:=uH g1.cellsAt g1'.cellsAt
  exact this ▸ g3'
def bts (s:ByteArray):List Int:=s.data.toList.map fun b=>(b.toNat:Int)
@[simp] theorem Qs (s:ByteArray):(bts s).length=s.size:=by simp [bts]
theorem WK {l:List Int} {bytes nl:Nat} {z:Value} {s:ByteArray} {K:Sl→Hp→Prop} (I:Inv h (ownS (rI .u8) a nl c l::A)) (hz:z.cells.size=1) (hb:bytes ≠ 0) (hbb:bytes≤30000) (hl:Bnd (l.length+(bts s).length))
    (k: ∀ a1 c1 h',Inv h' (ownS (rI .u8) a1 (l++bts s).length c1 (l++bts s)::A)→K ⟨a1,(l++bts s).length,c1⟩ h'):apT T 1 bytes z h ⟨a,nl,c⟩ s K:=
  IW (E:=rI .u8) (m:=bts s) (a':=emp) I.eH.swap (by simp) (fun _=>qO.2 (by simp [byteVals,bts])) hz hb hbb hl fun a1 c1 h' I=>k a1 c1 h' I.swap.bN
theorem nF (z:Value) (n:Nat):zeros z n=(List.replicate n z.cells.toList).flatten:=rfl
theorem WL {bytes nl:Nat} {z:Value} {z0:X} {n:Int} {K:Sl→Hp→Prop} (I:Inv h (ownS E a nl c l::A)) (hz: ∀ h M,E.P h M z.cells.toList z0) (hb:bytes ≠ 0) (hbb:bytes≤30000) (h0:0≤n) (hl:Bnd (l.length+n.toNat))
    (k: ∀ a1 c1 h',Inv h' (ownS E a1 (l++List.replicate n.toNat z0).length c1 (l++List.replicate n.toNat z0)::A)→K ⟨a1,(l++List.replicate n.toNat z0).length,c1⟩ h'):apZ T E.n bytes z h ⟨a,nl,c⟩ n K:=by
  obtain rfl:=gp I
  have e1:(2:Nat) ^ 48=281474976710656:=by decide
  have e2:IntKind.i64.max=9223372036854775807:=by decide
  unfold Bnd at hl
  refine ⟨h0, ?_,by rw [e2]; simp only; omega, ?_⟩
  · obtain ⟨j, rfl⟩ := Int.eq_ofNat_of_zero_le h0
    have:j*bytes≤4294967296*30000:=Nat.mul_le_mul (by simp at hl; omega) hbb
    have e3:(2:Int) ^ 48=281474976710656:=by decide
    rw [e3]
    have:((j*bytes:Nat):Int)≤281474976710656:=by omega
    simpa using this
  · refine IW (m:=List.replicate n.toNat z0) (a':=emp) I.eH.swap (by simp) (fun _=>by rw [nF]; exact Els.repl (hz _ _) _) (by have:=E.len (hz h []); simpa using this) hb hbb (by simpa using hl) fun a1 c1 h' I=>k a1 c1 h' I.swap.bN
theorem afu {bytes:Nat} {z:Value} {z0:X} {n:Int} {K:Sl→Hp→Prop} (I:Inv h A) (hz: ∀ h M,E.P h M z.cells.toList z0) (hbb:bytes≤30000) (hn:0≤n∧n≤4294967296)
    (k: ∀ a1 c1 h',Inv h' (ownS E a1 (List.replicate n.toNat z0).length c1 (List.replicate n.toNat z0)::A)→K ⟨a1,(List.replicate n.toNat z0).length,c1⟩ h'):mkW T E.n bytes z h n n K:=by
  obtain ⟨j,rfl⟩:=Int.eq_ofNat_of_zero_le hn.1
  have e2:IntKind.i64.max=9223372036854775807:=by decide
  have e3:(2:Int) ^ 48=281474976710656:=by decide
  refine ⟨⟨hn.1,Int.le_refl _, ?_⟩,by rw [e2]; omega, ?_⟩
  · have : j * bytes ≤ 4294967296 * 30000 := Nat.mul_le_mul (by omega) hbb
    rw [e3]
    have:((j*bytes:Nat):Int)≤281474976710656:=by omega
    simpa using this
  · have := k (some ⟨h.size, 0, none⟩) j (h.push (.cells (zeros z j).toArray T (0, 0))) ?_
    · simpa using this
    · obtain ⟨F, M, hF, _, _, _, H⟩ := I.eH.turn
      have hF:F=[]:=hF
      subst hF
      have hl:=E.len (hz h [])
      refine H _ [_] [[h.size]] (Keep.push _ _ _) (fun b hb=> .inr (by simp at hb; omega)) (by simp) fun M' _ _ _=>⟨⟨by simp,T,zeros z j, ?_,by rw [nF]; exact Els.repl (hz _ _) _⟩,trivial⟩
      have hzl:(zeros z j).length=j*E.n:=by rw [lJ,← hl]; simp
      have:=xV (h:=h) (T:=T) (m:=E.n) (n:=j) hzl
      simpa using this
def sub (l:List X) (lo hi:Int):List X:=(l.take hi.toNat).drop lo.toNat
abbrev SlOk (l:List X) (lo hi:Int):Prop:=0≤lo∧lo≤hi∧hi≤l.length
theorem dQ {l:List X} {lo hi:Int} (H:SlOk l lo hi):(sub l lo hi).length=hi.toNat - lo.toNat:=by
  unfold sub; simp; obtain ⟨h0,h1,h2⟩:=H; omega
abbrev resl (a:Option Addr) (c n:Nat) (lo:Int):Option Addr:=if c=lo.toNat then a else a.map (·.add (lo.toNat*n))
theorem ET (x:Addr) (n:Nat):(x.add n).block=x.block:=by unfold Addr.add; split <;> rfl
theorem BY {n:Nat} {lo:Int} {x:Addr} (h:resl a c n lo=some x): ∃ y,a=some y∧y.block=x.block:=by
  unfold resl at h
  split at h
  · exact ⟨x,h,rfl⟩
  · cases a with
    | none=>cases h
    | some y=>simp at h; subst h; exact ⟨y,rfl,(ET _ _).symm⟩
theorem Dy {n len:Nat} {lo hi:Int} (H:SlV h ⟨a,len,c⟩ n vs) (h0:0≤lo) (h1:lo≤hi) (h2:hi≤len) (hc:len≤c):
    SlV h ⟨resl a c n lo,hi.toNat - lo.toNat,c - lo.toNat⟩ n ((vs.take (hi.toNat*n)).drop (lo.toNat*n))∧hi.toNat - lo.toNat≤c - lo.toNat:=by
  have key:=LF (K:=fun s=>s=⟨resl a c n lo,hi.toNat - lo.toNat,c - lo.toNat⟩→SlV h s n ((vs.take (hi.toNat*n)).drop (lo.toNat*n))∧s.len≤s.cap) H h0 h1 h2 hc (fun s hs _ hc _ _ e=>⟨hs,hc⟩)
  exact key.2.2 rfl
theorem Dz {lo hi:Int} (H:SlE E h M a c l) (hb:SlOk l lo hi):SlE E h M (resl a c E.n lo) (c - lo.toNat) (sub l lo hi):=by
  obtain ⟨vs,g1,g2,g3,g4⟩:=H
  obtain ⟨h0,h1,h2⟩:=hb
  obtain ⟨k1,k2⟩:=Dy g1 h0 h1 h2 g2
  have hsl:=dQ (l:=l) ⟨h0,h1,h2⟩
  refine ⟨_,by rw [hsl]; exact k1,by rw [hsl]; exact k2,fun hne x hx=> ?_,g4.sub (by omega) (by omega)⟩
  obtain ⟨y,hy,e⟩:=BY hx
  rw [← e]
  exact g3 (by rintro rfl; simp at hne) y hy
theorem LY {lo hi:Int} {n:Nat} {K:Sl→Prop} (H:SlOk l lo hi) (hc:l.length≤c) (k:K ⟨resl a c n lo,(sub l lo hi).length,c - lo.toNat⟩):slW ⟨a,l.length,c⟩ lo hi n K:=by
  have hsl:=dQ H
  obtain ⟨h0,h1,h2⟩:=H
  exact ⟨⟨by omega,by simp only; omega⟩,⟨h0,h1⟩,by rw [← hsl]; exact k⟩
def cpL (l m:List X):List X:=m.take l.length++l.drop m.length
theorem BZ (l m:List X):(cpL l m).length=l.length:=by unfold cpL; simp; omega
theorem wX {s : Sl} {n : Nat} {F : List Nat} {K : Hp → Prop} {us : List Value} (H : Own h s T n us F) (hw : ws.length ≤ us.length) (ho : ∀ v ∈ ws, v.oneCell' = true)
    (k: ∀ h',Own h' s T n (ws++us.drop ws.length) F→Keep F h h'→K h'):(match s.a with | some a=>stAll h a 0 ws K | none=>K h):=by
  have H0:=H
  obtain ⟨g1,g2,g3⟩:=H
  cases ha:s.a with
  | none =>
    rw [ha] at g3
    have : us = [] := List.length_eq_zero_iff.1 (by rw [g1]; have : s.len = 0 := by omega
                                                    rw [this]; simp)
    subst this
    obtain rfl:ws=[]:=List.length_eq_zero_iff.1 (by simpa using hw)
    exact k h (by simpa using H0) (Keep.refl _ _)
  | some y =>
    rw [ha] at g3
    obtain ⟨b,o,sp⟩:=y
    obtain ⟨hf,hs,pre,post,z,hb,hp,hl,hz⟩:=g3
    simp only at hs hb hp hf hz hl; subst hs
    have hcap:s.len*n≤s.cap*n:=Nat.mul_le_mul_right _ g2
    refine jD (T:=T) (z:=z) ws (us.take ws.length) h pre (us.drop ws.length++post) 0 ?_ (by simp; omega) (by omega) (by omega) ho fun h' hb' k' hs'=> ?_
    · rw [hb]; congr 2
      conv=>lhs; rw [← List.take_append_drop ws.length us]
      simp only [List.append_assoc]
    · refine k h' ⟨by simp; omega, g2, ?_⟩ (by rw [hf]; exact k')
      rw [ha]
      exact ⟨hf,rfl,pre,post,z,by rw [hb']; simp only [List.append_assoc],hp,by simp; omega,hz⟩
theorem afv {nl nm : Nat} {K : Int → Hp → Prop} (hX : Rd E a' a2 nm c2 m) (I : Inv h (ownS E a nl c l :: a' :: A)) (k : ∀ h', Inv h' (ownS E a nl c (cpL l m) :: a' :: A) → K (min nm nl : Nat) h') :
    cpW E.n h ⟨a,nl,c⟩ ⟨a2,nm,c2⟩ K:=by
  obtain rfl:=fD hX I.swap
  obtain rfl:=gp I
  obtain ⟨F,M,⟨F1,F2,eF,⟨_,T',vs,h1,h2⟩,h3⟩,hFM,hnd,hlt,H⟩:=I.sepI.turn
  subst eF
  obtain ⟨_,ws,g1,g2,g3⟩:=hX h3
  have hwl:=g3.len
  have hvl:=h2.len
  have hmin:min m.length l.length*E.n≤ws.length:=by rw [hwl]; exact Nat.mul_le_mul_right _ (Nat.min_le_left _ _)
  have aiu:min m.length l.length*E.n≤vs.length:=by rw [hvl]; exact Nat.mul_le_mul_right _ (Nat.min_le_right _ _)
  refine ⟨ws.take (min m.length l.length*E.n), ?_, ?_⟩
  · have := (g1.take (i := min m.length l.length) (Nat.min_le_left _ _) c2).cellsAt
    exact this
  · have key := wX (K := fun h' => K (min m.length l.length : Nat) h') (ws := ws.take (min m.length l.length * E.n)) h1 (by rw [List.length_take]; omega) (fun v hv => g3.one v (List.mem_of_mem_take hv)) fun h' hO hk => ?_
    · exact key
    · obtain ⟨d1, d2, d3⟩ := List.nodup_append.1 hnd
      have NC:=a'.lt h3
      have el:(cpL l m).length=l.length:=BZ l m
      refine k h' (H h' [_,a'] [F1,F2] (hk.mono fun b hb=> .inl (by simp [hb])) (fun b hb=> .inl (by rw [sK] at hb; exact hb)) (by rw [sK]; exact hnd) fun M' hL _ _=>⟨⟨el.symm,T',_,by rw [el]; exact hO, ?_⟩,a'.mono (fun b hb=>hk.2 b (NC b hb) fun e=>d3 b e b hb rfl) hL h3,trivial⟩)
      have hlt:(ws.take (min m.length l.length*E.n)).length=min m.length l.length*E.n:=by rw [List.length_take]; omega
      rw [hlt]
      have e1:m.take l.length=m.take (min m.length l.length):=by rw [List.take_eq_take_iff]; omega
      have e2:l.drop m.length=l.drop (min m.length l.length):=by
        rcases Nat.le_total m.length l.length with h | h
        · rw [Nat.min_eq_left h]
        · rw [Nat.min_eq_right h,List.drop_eq_nil_of_le h,List.drop_eq_nil_of_le (Nat.le_refl _)]
      unfold cpL
      rw [e1,e2]
      exact ((g3.take_drop _ (Nat.min_le_left _ _)).1.mono hL).append ((h2.take_drop _ (Nat.min_le_right _ _)).2.mono hL)
theorem afw {nl:Nat} {z:Value} {z0:X} {K:Hp→Prop} (I:Inv h (ownS E a nl c l::A)) (hz: ∀ h M,E.P h M z.cells.toList z0) (k: ∀ h',Inv h' (ownS E a nl c (List.replicate nl z0)::A)→K h'):
    clW z h ⟨a,nl,c⟩ K:=by
  obtain rfl:=gp I
  obtain ⟨F,M,⟨_,T,vs,h1,h2⟩,hFM,hnd,hlt,H⟩:=I.turn
  have hvl:=h2.len
  have hE:=E.len (hz h M)
  have hzl:(zeros z l.length).length=l.length*E.n:=by rw [lJ,← hE]; simp
  have hrep: ∀ M',Els E h M' (zeros z l.length) (List.replicate l.length z0):=fun M'=>by rw [nF]; exact Els.repl (hz _ _) _
  have key:=wX (K:=K) (ws:=zeros z l.length) h1 (by omega) (hrep M).one fun h' hO hk=> ?_
  · unfold clW
    cases a with
    | none=>exact key
    | some x=>exact key
  · refine k h' (H h' [_] [F] hk (fun b hb => .inl (by simpa using hb)) (by simpa using hnd) fun M' hL _ _ => ⟨⟨by simp, T, zeros z l.length, ?_, by rw [nF]; exact Els.repl (hz _ _) _⟩, trivial⟩)
    rw [List.drop_eq_nil_of_le (by omega),List.append_nil] at hO
    simpa using hO
end Go.Pu
namespace Go.Pu
open Go Go.Wc
structure Ky (κ:Type) [DecidableEq κ] where
  kd:Kd
  enc:κ→Value
  same: ∀ a b,sameK kd (enc a) (enc b)=some (decide (a=b))
@[reducible] def kI (k:IntKind):Ky Int:=⟨.int k,fun n=> .int k n,fun a b=>by
  simp only [sameK,if_true]
  by_cases h:a=b
  · subst h; simp
  · simp [h]⟩
variable {κ V X:Type} [DecidableEq κ] {Kx:Ky κ} {E:Rp V} {h h':Hp} {M M':List Nat} {A:List At} {a a':At} {agg:Bool}
def look:List (κ × V)→κ→Option V
  | [],_=>none
  | (k',v')::L,k=>if k=k' then some v' else look L k
def upd:List (κ × V)→κ→V→List (κ × V)
  | [],k,v=>[(k,v)]
  | (k',v')::L,k,v=>if k=k' then (k,v)::L else (k',v')::upd L k v
def del:List (κ × V)→κ→List (κ × V)
  | [],_=>[]
  | (k',v')::L,k=>if k=k' then L else (k',v')::del L k
abbrev lkO (L:Option (List (κ × V))) (k:κ):Option V:=look (L.getD []) k
def muP (L:Option (List (κ × V))) (k:κ) (v:V) (K:Option (List (κ × V))→Prop):Prop:= ∃ L0,L=some L0∧K (some (upd L0 k v))
@[reducible] def vOf (agg:Bool) (vs:List Value):Value:=match agg with
  | true=> .agg vs.toArray
  | false=>vs.headD undef
def entR (Kx:Ky κ) (E:Rp V) (agg:Bool) (h:Hp) (M:List Nat) (e:MapEntry) (p:κ × V):Prop:=e.key=Kx.enc p.1∧ ∃ vs,e.val=vOf agg vs∧E.P h M vs p.2
theorem entR.mono {e:MapEntry} {p:κ × V} (hL:Le h M h' M'):entR Kx E agg h M e p→entR Kx E agg h' M' e p:=fun ⟨h1,vs,h2,h3⟩=>⟨h1,vs,h2,E.mono hL h3⟩
def mapX (Kx : Ky κ) (E : Rp V) (agg : Bool) (m : Option Nat) (o : Option (Array MapEntry × Nat)) (L : Option (List (κ × V))) : At :=
  ⟨fun h F M=>match m,o,L with
      | none,none,none=>F=[]
      | some r,some (es,ck),some L=>F=[r]∧h[r]? =some (.map es ck)∧fX (entR Kx E agg h M) es.toList L∧MapKept.Stamped es ck
      | _,_,_=>False,
    by
      intro h F M h' M' hk hL H
      split at H
      · exact H
      · obtain ⟨h1, h2, h3, h4⟩ := H
        exact ⟨h1,by rw [hk _ (by rw [h1]; simp),h2],h3.mono fun _ _=>entR.mono hL,h4⟩
      · exact H,
    by
      intro h F M H b hb
      split at H
      · subst H; cases hb
      · obtain ⟨h1, h2, h3⟩ := H
        subst h1; simp at hb; subst hb; exact oQ h2
      · exact H.elim⟩
theorem Inv.nilM (Kx:Ky κ) (E:Rp V) (agg:Bool) (I:Inv h A):Inv h (mapX Kx E agg none none none::A):=I.addP fun M _=>rfl
theorem Ix {K:Nat→Hp→Prop} (Kx:Ky κ) (E:Rp V) (agg:Bool) (I:Inv h A) (k: ∀ r h' o,Inv h' (mapX Kx E agg (some r) o (some [])::A)→K r h'):amW h K:=by
  refine k _ _ (some (#[],0)) ?_
  obtain ⟨F,M,hF,_,_,_,H⟩:=I.eH.turn
  have hF:F=[]:=hF
  subst hF
  exact H _ [_] [[h.size]] (Keep.push _ _ _) (fun b hb=> .inr (by simp at hb; omega)) (by simp) fun M' _ _ _=>⟨⟨rfl,zI _ _, .nil,MapKept.stamped_empty _⟩,trivial⟩
def fiA:List (κ × V)→κ→Nat→Option Nat
  | [],_,_=>none
  | (k',v)::L,k,i=>if k=k' then some i else fiA L k (i+1)
theorem rR {k:κ}: ∀ {es:List MapEntry} {L:List (κ × V)} (i:Nat),fX (entR Kx E agg h M) es L→
    (look L k=none∧mfind Kx.kd (Kx.enc k) es i=some none∧fiA L k i=none)∨
    ∃ x j v,look L k=some x∧mfind Kx.kd (Kx.enc k) es i=some (some (j,v))∧fiA L k i=some j∧ ∃ vs,v=vOf agg vs∧E.P h M vs x
  | _,_,i, .nil=> .inl ⟨rfl,rfl,rfl⟩
  | e :: es, (k', x) :: L, i, .cons ⟨h1, vs, h2, h3⟩ h4 => by
    simp only at h1 h3
    simp only [mfind,h1,Kx.same,look,fiA]
    by_cases e:k=k'
    · subst e
      simp only [decide_true,if_true]
      exact .inr ⟨x,i,_,rfl,rfl,rfl,vs,h2,h3⟩
    · simp only [e, decide_false, if_false]
      exact rR (i+1) h4
theorem aeu {m:Option Nat} {o:Option (Array MapEntry × Nat)} {L:Option (List (κ × V))} {key:κ} {zv:Value} {zvs:List Value} {z0:V} {K:(Hp→Prop)→Option Value→Prop}
    (I:Inv h (mapX Kx E agg m o L::A)) (hz:zv=vOf agg zvs) (Kk: ∀ h M,E.P h M zvs z0)
    (k: ∀ f ov vs,ov.getD zv=vOf agg vs→ov.isSome=(lkO L key).isSome→(∀ {h' A'},Inv h' (mapX Kx E agg m o L::A')→f h')→Inv h (repA E vs ((lkO L key).getD z0)::mapX Kx E agg m o L::A)→K f ov):
    lkW Kx.kd h m (Kx.enc key) K:=by
  obtain ⟨F,M,H,hFM,hn,hlt,HH⟩:=I.turn
  have fin: ∀ vs x,E.P h M vs x→Inv h (repA E vs x::mapX Kx E agg m o L::A):=fun vs x hx=>
    HH h [repA E vs x,mapX Kx E agg m o L] [[],F] (Keep.refl _ _) (fun b hb=> .inl (by simpa using hb)) (by simpa using hn) fun M' hL _ _=>⟨⟨rfl,E.mono hL hx⟩,At.mono _ (fun _ _=>rfl) hL H,trivial⟩
  match m,o,L,I,H,fin,k with
  | none,none,none,I,H,fin,k=>exact k _ none zvs hz rfl (fun _=>trivial) (fin _ _ (Kk _ _))
  | some r, some (es, ck), some L, I, H, fin, k =>
    obtain ⟨h1,h2,h3,h4⟩:=H
    rcases rR (k:=key) 0 h3 with ⟨g1,g2,_⟩ | ⟨x,j,v,g1,g2,_,vs,g3,g4⟩
    · refine ⟨es, ck, h2, _, g2, k _ _ zvs hz (by simp [lkO, g1]) (fun {h' A'} J => ?_) (by simp only [lkO, Option.getD_some, g1, Option.getD_none]; exact fin _ _ (Kk _ _))⟩
      obtain ⟨_,_,_,j1,j2⟩:=J.get
      exact ⟨es,ck,_,j1,g2,rfl⟩
    · refine ⟨es, ck, h2, _, g2, k _ _ vs (by simpa using g3) (by simp [lkO, g1]) (fun {h' A'} J => ?_) (by simp only [lkO, Option.getD_some, g1]; exact fin _ _ g4)⟩
      obtain ⟨_,_,_,j1,j2⟩:=J.get
      exact ⟨es,ck,_,j1,g2,rfl⟩
theorem IX {L:List (κ × V)} {k:κ} {v:V}: ∀ {n:Nat},(fiA L k n=none→upd L k v=L++[(k,v)])∧ ∀ j,fiA L k n=some j→n≤j∧j - n<L.length∧upd L k v=L.set (j - n) (k,v)∧del L k=L.eraseIdx (j - n):=by
  induction L with
  | nil=>intro n; exact ⟨fun _=>rfl,fun j h=>by simp [fiA] at h⟩
  | cons p L ih =>
    obtain ⟨k',v'⟩:=p
    intro n
    simp only [fiA,upd,del]
    by_cases e:k=k'
    · subst e
      simp only [if_true]
      exact ⟨fun h=>by simp at h,fun j h=>by simp at h; subst h; simp⟩
    · simp only [e, if_false]
      obtain ⟨h1,h2⟩:=ih (n:=n+1)
      refine ⟨fun h=>by rw [h1 h]; rfl,fun j h=> ?_⟩
      obtain ⟨g1,g2,g3,g4⟩:=h2 j h
      rw [g3,g4,show j - n=(j - (n+1))+1 from by omega]
      exact ⟨by omega,by simp; omega,rfl,rfl⟩
theorem sL {α β:Type} {S:α→β→Prop} {l:List α} {m:List β} {l2:List α} {m2:List β} (H:fX S l m) (H2:fX S l2 m2):fX S (l++l2) (m++m2):=by
  induction H with
  | nil=>exact H2
  | cons h1 _ ih=>exact .cons h1 ih
theorem IY {α β:Type} {S:α→β→Prop} {l:List α} {m:List β} {x:α} {y:β} (H:fX S l m) (i:Nat) (hx:S x y):fX S (l.set i x) (m.set i y):=by
  induction H generalizing i with
  | nil=>exact .nil
  | cons h1 h2 ih => cases i with
    | zero=>exact .cons hx h2
    | succ i=>exact .cons h1 (ih i)
theorem Al {α β:Type} {S:α→β→Prop} {l:List α} {m:List β} (H:fX S l m):l.length=m.length:=by
  induction H with
  | nil=>rfl
  | cons h1 h2 ih=>simp [ih]
theorem wY {k:κ}: ∀ {es:List MapEntry} {L:List (κ × V)} (i:Nat),fX (entR Kx E agg h M) es L→ ∀ j v,mfind Kx.kd (Kx.enc k) es i=some (some (j,v))→ ∃ e,es[j - i]? =some e∧e.key=Kx.enc k
  | _,_,i, .nil,j,v,H=>by simp [mfind] at H
  | e :: es, (k', x) :: L, i, .cons ⟨h1, _⟩ h4, j, v, H => by
    simp only at h1
    simp only [mfind,h1,Kx.same] at H
    by_cases e2:k=k'
    · subst e2
      simp at H
      obtain ⟨rfl,_⟩:=H
      exact ⟨e,by simp,h1⟩
    · simp only [e2, decide_false] at H
      obtain ⟨e',g1,g2⟩:=wY (i+1) h4 j v H
      have:=(pW H).1
      exact ⟨e',by rw [show j - i=(j - (i+1))+1 from by omega]; simpa using g1,g2⟩
theorem Ky.inj (Kx:Ky κ) {a b:κ} (e:Kx.enc a=Kx.enc b):a=b:=by
  have h1:=Kx.same a a
  have h2:=Kx.same a b
  rw [← e,h1] at h2
  simpa using h2
theorem DA {k:κ}: ∀ {es:List MapEntry} {L:List (κ × V)} {i:Nat},fX (entR Kx E agg h M) es L→fiA L k i=none→ ∀ e ∈ es,e.key ≠ Kx.enc k
  | _,_,_, .nil,_,e,he=>by cases he
  | e0 :: es, (k', x) :: L, i, .cons ⟨h1, _⟩ h4, H, e, he => by
    simp only [fiA] at H
    split at H
    · cases H
    · rename_i hne
      rcases List.mem_cons.1 he with rfl | he
      · intro e2; rw [h1] at e2; exact hne (Kx.inj e2).symm
      · exact DA h4 H e he
theorem Qt {es : Array MapEntry} {ck : Nat} {L0 : List (κ × V)} {key : κ} {v : Value} {vs : List Value} {x : V} (h3 : fX (entR Kx E agg h M) es.toList L0) (h4 : MapKept.Stamped es ck) (hv : v = vOf agg vs) (hx : E.P h M vs x) :
    ∃ oo es' ck',mfind Kx.kd (Kx.enc key) es.toList 0=some oo∧muO es ck (Kx.enc key) v oo= .map es' ck'∧(∀ h' M',Le h M h' M'→(fX (entR Kx E agg h' M') es'.toList (upd L0 key x)))∧MapKept.Stamped es' ck':=by
  rcases rR (k:=key) 0 h3 with ⟨g1,g2,g3⟩ | ⟨y,j,w,g1,g2,g3,_⟩
  · refine ⟨none, es.push { key := Kx.enc key, val := v, born := ck }, ck + 1, g2, rfl, fun h' M' hL => ?_, MapKept.stamped_push h4 (DA h3 g3)⟩
    rw [IX.1 g3]
    simp only [Array.toList_push]
    exact sL (h3.mono fun _ _=>entR.mono hL) (.cons ⟨rfl,vs,hv,E.mono hL hx⟩ .nil)
  · have hst : MapKept.Stamped (es.modify j fun e => { e with key := Kx.enc key, val := v }) ck := MapKept.stamped_modify h4 _ _ (fun _ _ => rfl) (fun e he hj => by
      obtain ⟨e',q1,q2⟩:=wY 0 h3 j w g2
      rw [Nat.sub_zero,Array.getElem?_toList,hj] at q1
      cases q1; exact q2.symm)
    refine ⟨some (j,w),es.modify j fun e=> {e with key:=Kx.enc key,val:=v},ck,g2,rfl,fun h' M' hL=> ?_,hst⟩
    obtain ⟨u1,u2,u3,_⟩:=(IX (v:=x)).2 j g3
    rw [u3]
    have hlen:=Al h3
    have WM:j<es.toList.length:=by omega
    have:(es.modify j fun e=> {e with key:=Kx.enc key,val:=v}).toList=es.toList.set j {es.toList[j] with key:=Kx.enc key,val:=v}:=by
      apply List.ext_getElem
      · simp
      · intro i i1 i2
        simp only [Array.getElem_toList,Array.getElem_modify,List.getElem_set]
        split
        · rename_i e; subst e; rfl
        · rfl
    rw [this]
    exact IY (h3.mono fun _ _=>entR.mono hL) _ ⟨rfl,vs,hv,E.mono hL hx⟩
theorem Qu {r:Nat} {o o':Obj} (hr:h[r]? =some o):(h.setIfInBounds r o')[r]? =some o':=by
  have:=oQ hr
  simp [this]
theorem Vz {m:Option Nat} {o:Option (Array MapEntry × Nat)} {L:Option (List (κ × V))} {key:κ} {v:Value} {vs:List Value} {x:V} {K:Hp→Prop} {K':Option (List (κ × V))→Prop}
    (I:Inv h (repA E vs x::mapX Kx E agg m o L::A)) (hv:v=vOf agg vs) (H:muP L key x K')
    (k: ∀ h' o' L',Inv h' (mapX Kx E agg m o' L'::A)→K' L'→K h'):muW Kx.kd h m (Kx.enc key) v K:=by
  obtain ⟨F,M,⟨F1,F2,eF,⟨e1,hx⟩,hm⟩,hFM,hn,hlt,HH⟩:=I.sepI.turn
  subst e1
  obtain rfl:F=F2:=by simpa using eF
  obtain ⟨L0,rfl,HK⟩:=H
  match m,o,hm,k,HH with
  | some r, some (es, ck), hm, k, HH =>
    obtain ⟨h1,h2,h3,h4⟩:=hm
    obtain ⟨oo,es',ck',g0,g1,g2,g3⟩:=Qt (ck:=ck) (key:=key) h3 h4 hv hx
    refine ⟨r,rfl,es,ck,h2,oo,g0, ?_⟩
    rw [g1]
    exact k _ (some (es',ck')) (some (upd L0 key x)) (HH _ [mapX Kx E agg (some r) (some (es',ck')) (some (upd L0 key x))] [F] (Keep.set _ (by rw [h1]; simp)) (fun b hb=> .inl (by simpa using hb)) (by simpa using hn) fun M' hL _ _=>⟨⟨h1,Qu h2,g2 _ _ hL,g3⟩,trivial⟩) HK
  | none,none,hm,_,_=>exact (hm:False).elim
  | none,some _,hm,_,_=>exact (hm:False).elim
  | some _,none,hm,_,_=>exact (hm:False).elim
theorem afx {m:Option Nat} {o:Option (Array MapEntry × Nat)} {L:Option (List (κ × V))} {K:(Hp→Prop)→Int→Prop}
    (I:Inv h (mapX Kx E agg m o L::A)) (k: ∀ f,(∀ {h' A'},Inv h' (mapX Kx E agg m o L::A')→f h')→K f ((L.getD []).length:Nat)):lnM h m K:=by
  obtain ⟨F,M,hm⟩:=I.get
  match m,o,L,I,hm,k with
  | none,none,none,I,hm,k=>exact k _ fun _=>trivial
  | some r, some (es, ck), some L, I, hm, k =>
    obtain ⟨h1,h2,h3,_⟩:=hm
    have e:es.size=L.length:=by have:=Al h3; simpa using this
    refine ⟨es,ck,h2, ?_⟩
    rw [e]
    refine k _ fun {h' A'} J=> ?_
    obtain ⟨_,_,_,j1,_⟩:=J.get
    exact ⟨es,ck,j1,e⟩
  | none,none,some _,_,hm,_=>exact (hm:False).elim
  | none,some _,none,_,hm,_=>exact (hm:False).elim
  | none,some _,some _,_,hm,_=>exact (hm:False).elim
  | some _,none,none,_,hm,_=>exact (hm:False).elim
  | some _,none,some _,_,hm,_=>exact (hm:False).elim
  | some _,some _,none,_,hm,_=>exact (hm:False).elim
def bigA (As : List At) : At :=
  ⟨fun h F M=> ∃ Fs:List (List Nat),F=Fs.flatten∧Fits h M As Fs,by
    rintro h F M h' M' hk hL ⟨Fs,rfl,H⟩
    exact ⟨Fs,rfl,H.mono hL hk⟩,by
    rintro h F M ⟨Fs,rfl,H⟩
    exact H.lt⟩
theorem Inv.bigE {As:List At} (I:Inv h (bigA As::A)):Inv h (As++A):=by
  obtain ⟨Fs,hf,hn⟩:=I
  match Fs,hf,hn with
  | F :: Fs, hf, hn =>
    obtain ⟨⟨Gs,rfl,h1⟩,h2⟩:=hf
    have e:(Gs++Fs).flatten=(Gs.flatten::Fs).flatten:=by simp
    exact ⟨Gs++Fs,by rw [e]; exact h1.append h2,by rw [e]; exact hn⟩
theorem Inv.bigI {As:List At} (I:Inv h (As++A)):Inv h (bigA As::A):=by
  obtain ⟨Fs,hf,hn⟩:=I
  obtain ⟨Gs,Hs,rfl,h1,h2⟩:=hf.split
  have e:(Gs++Hs).flatten=(Gs.flatten::Hs).flatten:=by simp
  exact ⟨Gs.flatten::Hs,⟨⟨Gs,rfl,e ▸ h1⟩,e ▸ h2⟩,e ▸ hn⟩
theorem Inv.mid: ∀ {X:List At} {Y:List At},Inv h (X++a::Y)→Inv h (a::(X++Y))
  | [],Y,I=>I
  | x :: X, Y, I => (I.under (B := a :: (X ++ Y)) fun J => by
      have J:Inv h (X++a::(Y++[x])):=by simpa using J
      have:=Inv.mid J
      simpa using this).swap
theorem Inv.mid': ∀ {X:List At} {Y:List At},Inv h (a::(X++Y))→Inv h (X++a::Y)
  | [],Y,I=>I
  | x :: X, Y, I => (Inv.swap I).under fun J => by
      have J:Inv h (a::(X++(Y++[x]))):=by simpa using J
      have:=Inv.mid' J
      simpa using this
abbrev St (O:Type):=Addr→Option O
def sset {O:Type} (σ:St O) (p:Addr) (o:O):St O:=fun q=>if q=p then some o else σ q
def sdel {O:Type} (σ:St O) (p:Addr):St O:=fun q=>if q=p then none else σ q
variable {O:Type}
@[simp] theorem iu (σ:St O) (p:Addr) (o:O):sset σ p o p=some o:=by simp [sset]
@[simp] theorem mL (σ:St O) (p:Addr) (o o':O):sset (sset σ p o) p o'=sset σ p o':=by funext q; simp only [sset]; split <;> rfl
@[simp] theorem mK (σ:St O) (p:Addr) (o:O):sset (sdel σ p) p o=sset σ p o:=by funext q; simp only [sset,sdel]; split <;> rfl
theorem LZ {σ:St O} {p:Addr} {o:O} (h:σ p=some o):sset σ p o=σ:=by
  funext q; simp only [sset]
  split
  · rename_i e; subst e; exact h.symm
  · rfl
class Heads (rep:O→Addr→At):Prop where
  head: ∀ {o p h F M},(rep o p).P h F M→p.block ∈ F∧p.off=0∧p.spot=none
def hpA (rep:O→Addr→At) (σ:St O):At:=
  exA fun l:List (Addr × O)=>factA ((l.map (·.1)).Nodup∧ ∀ q,σ q=look l q) (bigA (l.map fun p=>rep p.2 p.1))
variable {rep:O→Addr→At} {σ:St O} {p:Addr} {o:O}
theorem ND {l:List (Addr × O)} (hn:(l.map (·.1)).Nodup) (hl: ∀ q,σ q=look l q) (I:Inv h (bigA (l.map fun p=>rep p.2 p.1)::A)):Inv h (hpA rep σ::A):=
  Inv.exI (f:=fun l:List (Addr × O)=>factA ((l.map (·.1)).Nodup∧ ∀ q,σ q=look l q) (bigA (l.map fun p=>rep p.2 p.1))) l (I.factI ⟨hn,hl⟩)
theorem B0 {L:List (κ × V)} {k:κ} {v:V} (h:look L k=some v): ∃ X Y,L=X++(k,v)::Y∧k ∉ X.map (·.1):=by
  induction L with
  | nil=>simp [look] at h
  | cons q L ih =>
    obtain ⟨k',v'⟩:=q
    simp only [look] at h
    split at h
    · rename_i e; subst e; cases h; exact ⟨[],L,rfl,by simp⟩
    · rename_i e
      obtain ⟨X,Y,rfl,hX⟩:=ih h
      exact ⟨(k',v')::X,Y,rfl,by simp only [List.map_cons,List.mem_cons,not_or]; exact ⟨e,hX⟩⟩
theorem wZ {L:List (κ × V)} {k:κ}:look L k=none↔k ∉ L.map (·.1):=by
  induction L with
  | nil=>simp [look]
  | cons q L ih =>
    obtain ⟨k',v'⟩:=q
    simp only [look,List.map_cons,List.mem_cons,not_or]
    split
    · rename_i e; simp [e]
    · rename_i e; rw [ih]; exact ⟨fun h=>⟨e,h⟩,fun h=>h.2⟩
theorem sM (X Y:List (κ × V)) (k:κ):look (X++Y) k=(look X k).or (look Y k):=by
  induction X with
  | nil=>simp [look]
  | cons q X ih =>
    obtain ⟨k',v'⟩:=q
    simp only [List.cons_append,look]
    split
    · rfl
    · exact ih
theorem Inv.take (I:Inv h (hpA rep σ::A)) (e:σ p=some o):Inv h (rep o p::hpA rep (sdel σ p)::A):=by
  obtain ⟨l,I⟩:=I.exE
  obtain ⟨⟨hn,hl⟩,I⟩:=I.factE
  have I:=I.bigE
  rw [hl] at e
  obtain ⟨X,Y,rfl,hX⟩:=B0 e
  have I:Inv h (X.map (fun p=>rep p.2 p.1)++rep o p::(Y.map (fun p=>rep p.2 p.1)++A)):=by simpa using I
  have I:=I.mid
  rw [List.map_append,List.map_cons,List.nodup_append] at hn
  obtain ⟨n1,n2,n3⟩:=hn
  simp only [List.nodup_cons] at n2
  refine I.under fun J=> ?_
  have J:=Inv.bigI (As:=(X++Y).map fun p=>rep p.2 p.1) (A:=A++[rep o p]) (by simpa using J)
  refine ND (l:=X++Y) ?_ (fun q=> ?_) J
  · rw [List.map_append, List.nodup_append]
    exact ⟨n1,n2.2,fun x hx y hy=>n3 x hx y (List.mem_cons_of_mem _ hy)⟩
  · unfold sdel
    split
    · rename_i e2; subst e2
      rw [eq_comm,wZ,List.map_append,List.mem_append,not_or]
      exact ⟨hX,n2.1⟩
    · rename_i e2
      rw [hl,sM,sM]
      simp only [look,e2,if_false]
theorem Inv.put (I:Inv h (rep o p::hpA rep σ::A)) (e:σ p=none):Inv h (hpA rep (sset σ p o)::A):=by
  obtain ⟨l,I⟩:=I.swap.exE
  obtain ⟨⟨hn,hl⟩,I⟩:=I.factE
  have I:=I.swap
  have I:Inv h (rep o p::(l.map (fun p=>rep p.2 p.1)++A)):=I.under fun J=>by have:=J.bigE; simpa using this
  have hpl:p ∉ l.map (·.1):=by rw [← wZ,← hl,e]
  refine ND (l:=(p,o)::l) (by simp only [List.map_cons,List.nodup_cons]; exact ⟨hpl,hn⟩) (fun q=> ?_) (Inv.bigI (As:=((p,o)::l).map fun p=>rep p.2 p.1) I)
  unfold sset
  simp only [look]
  split
  · rfl
  · exact hl q
theorem Inv.putB (I:Inv h (rep o p::hpA rep (sdel σ p)::A)):Inv h (hpA rep (sset σ p o)::A):=by
  have:=I.put (by simp [sdel])
  rwa [mK] at this
theorem Inv.putS (e:σ p=some o) (I:Inv h (rep o p::hpA rep (sdel σ p)::A)):Inv h (hpA rep σ::A):=by
  have:=I.putB
  rwa [LZ e] at this
theorem Inv.new [Heads rep] (I : Inv h (rep o p :: hpA rep σ :: A)) : σ p = none ∧ Inv h (hpA rep (sset σ p o) :: A) := by
  have e:σ p=none:=by
    cases hs:σ p with
    | none=>rfl
    | some o2 =>
      exfalso
      have J:=(I.swap.take hs)
      have J:=J.aP
      obtain ⟨Fs,hf,hn⟩:=J
      match Fs,hf,hn with
      | F :: G :: Fs, hf, hn =>
        have h1:=Heads.head hf.1
        have h2:=Heads.head hf.2.1
        simp only [List.flatten_cons] at hn
        rw [List.nodup_append] at hn
        exact hn.2.2 _ h1.1 _ (List.mem_append.2 (.inl h2.1)) rfl
      | [_],hf,_=>exact hf.2.elim
  exact ⟨e,I.put e⟩
def leA (h0:Hp) (M0:List Nat):At:=
  ⟨fun h F M=>F=[]∧Le h0 M0 h M,fun _ hL ⟨e,h⟩=>⟨e,h.trans hL⟩,fun ⟨e,_⟩ b hb=>by subst e; cases hb⟩
theorem LU {h0:Hp} (I:Inv h (leA h0 []::A)):Keep [] h0 h:=by
  obtain ⟨F,M,_,hL⟩:=I.get
  exact hL.1
def Lf {α:Type} (Φ:(α→Prop)→α→Prop) (v:α):Prop:= ∀ R:α→Prop,(∀ v,(∃ S:α→Prop,(∀ v,S v→R v)∧Φ S v)→R v)→R v
theorem Lf.fold {α:Type} {Φ:(α→Prop)→α→Prop} {v:α} (H:Φ (Lf Φ) v):Lf Φ v:=fun R hR=>hR v ⟨_,fun v' h'=>h' R hR,H⟩
theorem Lf.ind {α:Type} {Φ:(α→Prop)→α→Prop} {v:α} (H:Lf Φ v) (R:α→Prop) (step: ∀ v S,(∀ v,S v→R v)→Φ S v→R v):R v:=
  H R fun v ⟨S,h1,h2⟩=>step v S h1 h2
end Go.Pu
namespace Go.Pu
open Go Go.Wc
variable {X:Type} {E:Rp X} {h h':Hp} {M M':List Nat} {vs ws:List Value} {l m:List X} {A:List At} {a a2:Option Addr} {c c2 T n:Nat} {a':At} {k:IntKind} {p:Addr} {ss:List Seg}
theorem Dh {nl:Nat} {l:List Int} {i:Int} {K':Int→Prop} {K:Addr→Prop} (hX:Rd (rI k) a' a nl c l) (I:Inv h (a'::A)) (H:ixP l i K')
    (kk: ∀ p x,EAdr a 1 i p→(0≤i∧i<l.length)→hcell h p=some (.int k x)→K' x→K p):ixW a nl i 1 K:=
  GW hX I Nat.one_ne_zero H fun p vs x he _ hc I hx=>by
    obtain ⟨_,_,_,e⟩:=I.get
    have e:vs=[.int k x]:=e
    subst e
    exact kk p x he (oc H) (hc 0 _ rfl) hx
def VAdr (p:Addr) (off:Nat) (i:Int) (q:Addr):Prop:=q=(p.add off).add (i.toNat*1)
theorem jm {i:Int} {off j:Nat} {v:Vector Int n} {K':Int→Prop} {K:Addr→Prop} (I:Inv h (blk p T ss::A)) (hv:segAt ss j 0=some (off, .vec k n v)) (H:ixP v.toList i K')
    (kk: ∀ q x,VAdr p off i q→(0≤i∧i<n)→hcell h q=some (.int k x)→K' x→K q):ixW (some (p.add off)) n i 1 K:=by
  have hb:=oc H
  obtain ⟨h0,x,hx,hK⟩:=H
  simp only [Vector.length_toList] at hb
  refine ⟨_,rfl,hb,kk _ x rfl hb ?_ hK⟩
  have:=I.lump j off hv i.toNat (by omega)
  rw [Nat.mul_one,this]
  simp [List.getD_eq_getElem?_getD,hx]
theorem qR {ss:List Seg} {i off acc:Nat} {s t:Seg} (h:segAt ss i acc=some (off,s)) (hs:s.size=t.size):segSize ((ss.set i t).take i)=segSize (ss.take i)∧i<ss.length:=by
  obtain ⟨h1,_⟩:=fE h
  have hil:i<ss.length:=by
    have:=congrArg List.length h1
    simp at this; omega
  refine ⟨?_,hil⟩
  rw [List.take_set,List.set_eq_of_length_le (by simp; omega)]
theorem L9 {v:Vector Int n} {i:Nat} {x:Int} (hi:i<n):lumpV k n (v.setIfInBounds i x).toList=(lumpV k n v.toList).take i++ .int k x::(lumpV k n v.toList).drop (i+1):=by
  rw [gR,gR]
  have:(v.setIfInBounds i x).toList=v.toList.set i x:=by simp [Vector.toList]
  rw [this,List.set_eq_take_append_cons_drop,if_pos (by simpa using hi)]
  simp
theorem rQ {i:Int} {off j:Nat} {v:Vector Int n} {x:Int} {q:Addr} {K:Hp→Prop} (I:Inv h (blk p T ss::A)) (hv:segAt ss j 0=some (off, .vec k n v)) (hq:VAdr p off i q) (hb:0≤i∧i<n)
    (kk: ∀ h',Inv h' (blk p T (ss.set j (.vec k n (v.setIfInBounds i.toNat x)))::A)→K h'):st h (q.add 0) (.int k x) K:=by
  have hi:i.toNat<n:=by omega
  obtain ⟨F,M,⟨hF,h0,h1,hb⟩,hFM,hn,hlt,H⟩:=I.turn
  obtain ⟨e1,e2⟩:=fE hv
  obtain ⟨_,hil⟩:=qR (t:= .vec k n v) hv rfl
  subst hq
  rw [add_add,add_add,add_eq h0 h1,Nat.mul_one,Nat.add_zero]
  have hl:(lumpV k n v.toList).length=n:=cJ _ _ _
  have hsp:lumpV k n v.toList=(lumpV k n v.toList).take i.toNat++(lumpV k n v.toList)[i.toNat]'(by omega)::(lumpV k n v.toList).drop (i.toNat+1):=by
    rw [← List.drop_eq_getElem_cons (by omega),List.take_append_drop]
  refine BF (T:=T) (z:=(0,0)) (pre:=segs (ss.take j)++(lumpV k n v.toList).take i.toNat) (post:=(lumpV k n v.toList).drop (i.toNat+1)++segs (ss.drop (j+1))) (u:=(lumpV k n v.toList)[i.toNat]'(by omega)) ?_
    (by rw [List.length_append,dS,List.length_take,hl]; omega) (.inr (Nat.zero_le _)) fun h' hb' k' hs'=> ?_
  · rw [hb]
    congr 2
    have:segs ss=segs (ss.take j)++(lumpV k n v.toList++segs (ss.drop (j+1))):=by
      conv=>lhs; rw [e1,dH]
      rfl
    rw [this]
    conv=>lhs; rw [hsp]
    simp only [List.append_assoc,List.cons_append]
  · refine kk h' (H h' [_] [[p.block]] (by rw [hF]; exact k') (fun b hb => .inl (by rw [hF]; simpa using hb)) (by simp) fun M' _ _ _ => ⟨⟨rfl, h0, h1, ?_⟩, trivial⟩)
    rw [hb',List.set_eq_take_append_cons_drop,if_pos hil,dH]
    simp only [segs,Seg.cells,L9 hi,List.append_assoc,List.cons_append]
theorem IZ {off j:Nat} {v:Vector Int n} (hv:segAt ss j 0=some (off, .vec k n v)):Rd (rI k) (blk p T ss) (some (p.add off)) n n v.toList:=by
  intro h F M ⟨hF,h0,h1,hb⟩
  refine ⟨by simp, ?_⟩
  obtain ⟨e1,e2⟩:=fE hv
  refine ⟨v.toList.map (Value.int k),⟨by simp, ?_⟩,by simp,qO.2 rfl⟩
  rw [add_eq h0 h1]
  refine ⟨fun _=>rfl,fun i hi=> ?_⟩
  have hi:i<n:=by simpa using hi
  rw [mV hb,e1,dH,e2,Nat.zero_add]
  simp only [segs,Seg.cells,List.getElem?_toArray]
  rw [List.getElem?_append_right (by rw [dS]; omega),dS,Nat.add_sub_cancel_left,List.getElem?_append_left (by rw [cJ]; exact hi),gR]
  rw [List.getElem?_eq_getElem]
def toV (n:Nat) (l:List Int):Vector Int n:=⟨(nrm n l).toArray,by simp [pX]⟩
@[simp] theorem B6 (n:Nat) (l:List Int):(toV n l).toList=nrm n l:=by simp [toV,Vector.toList]
theorem I5 {l:List Int} (h:l.length=n):(toV n l).toList=l:=by rw [B6,vg h]
@[simp] theorem aiv (v:Vector Int n):toV n v.toList=v:=by
  apply Vector.toArray_inj.1
  show (nrm n v.toList).toArray=v.toArray
  rw [dy]; simp [Vector.toList]
def cpV (v:Vector Int n) (lo:Nat) (m:List Int):Vector Int n:=toV n (v.toList.take lo++cpL (v.toList.drop lo) m)
def VSl (p:Addr) (off n:Nat) (lo:Int) (a:Option Addr) (c:Nat):Prop:=a=resl (some (p.add off)) n 1 lo∧c=n - lo.toNat
theorem w6 {v:Vector Int n} {ws:List Int} {lo:Nat} (h:lo+ws.length≤n):
    lumpV k n (toV n (v.toList.take lo++(ws++v.toList.drop (lo+ws.length)))).toList=(lumpV k n v.toList).take lo++(ws.map (Value.int k)++(lumpV k n v.toList).drop (lo+ws.length)):=by
  rw [gR,I5 (by simp; omega),gR]
  simp
theorem Qv {off j:Nat} {v:Vector Int n} {lo:Int} {a1:Option Addr} {c1 len nm:Nat} {m:List Int} {K:Int→Hp→Prop} (hv:segAt ss j 0=some (off, .vec k n v)) (hs:VSl p off n lo a1 c1) (h0:0≤lo∧lo≤n) (hlen:len=n - lo.toNat)
    (hX:Rd (rI k) a' a2 nm c2 m) (I:Inv h (blk p T ss::a'::A))
    (kk: ∀ h',Inv h' (blk p T (ss.set j (.vec k n (cpV v lo.toNat m)))::a'::A)→K (min nm len:Nat) h'):cpW 1 h ⟨a1,len,c1⟩ ⟨a2,nm,c2⟩ K:=by
  obtain rfl:=fD hX I.swap
  obtain ⟨F,M,⟨F1,F2,eF,⟨hF,p0,p1,hb⟩,h3⟩,hFM,hnd,hlt,H⟩:=I.sepI.turn
  subst eF
  obtain ⟨_,us,g1,g2,g3⟩:=hX h3
  obtain rfl:=qO.1 g3
  obtain ⟨e1,e2⟩:=fE hv
  obtain ⟨_,hil⟩:=qR (t:= .vec k n v) hv rfl
  obtain ⟨rfl,rfl⟩:=hs
  have hl:(lumpV k n v.toList).length=n:=cJ _ _ _
  let w:=m.take (min m.length len)
  have hw:w.length=min m.length len:=by simp only [w,List.length_take]; omega
  have hbnd:lo.toNat+w.length≤n:=by omega
  refine ⟨w.map (Value.int k), ?_, ?_⟩
  · have := (g1.take (i := min m.length len) (Nat.min_le_left _ _) c2).cellsAt
    simpa [w,List.map_take] using this
  have ecp:cpV v lo.toNat m=toV n (v.toList.take lo.toNat++(w++v.toList.drop (lo.toNat+w.length))):=by
    unfold cpV cpL
    have hdl:(v.toList.drop lo.toNat).length=len:=by simp; omega
    rw [hdl,List.drop_drop]
    have q1:m.take len=w:=by
      simp only [w]; rw [List.take_eq_take_iff]; omega
    have q2:v.toList.drop (lo.toNat+m.length)=v.toList.drop (lo.toNat+w.length):=by
      rw [hw]
      rcases Nat.le_total m.length len with h | h
      · rw [Nat.min_eq_left h]
      · rw [Nat.min_eq_right h,List.drop_eq_nil_of_le (by simp; omega),List.drop_eq_nil_of_le (by simp; omega)]
    rw [q1,q2]
  have fin: ∀ h',h'[p.block]? =some (.cells (segs (ss.set j (.vec k n (cpV v lo.toNat m)))).toArray T (0,0))→Keep [p.block] h h'→K (min m.length len:Nat) h':=by
    intro h' hb' hk
    obtain ⟨d1,d2,d3⟩:=List.nodup_append.1 hnd
    have NC:=a'.lt h3
    refine kk h' (H h' [_,a'] [F1,F2] (hk.mono fun b hb=> .inl (by rw [hF]; simp at hb ⊢; exact .inl hb)) (fun b hb=> .inl (by rw [sK] at hb; exact hb)) (by rw [sK]; exact hnd) fun M' hL _ _=>⟨⟨hF,p0,p1,hb'⟩,a'.mono (fun b hb=>hk.2 b (NC b hb) fun e=> ?_) hL h3,trivial⟩)
    simp at e; subst e
    exact d3 p.block (by rw [hF]; simp) p.block hb rfl
  have hcells:segs ss=segs (ss.take j)++(lumpV k n v.toList++segs (ss.drop (j+1))):=by
    conv=>lhs; rw [e1,dH]
    rfl
  have hsplit:lumpV k n v.toList=(lumpV k n v.toList).take lo.toNat++(((lumpV k n v.toList).drop lo.toNat).take w.length++(lumpV k n v.toList).drop (lo.toNat+w.length)):=by
    rw [← List.drop_drop,List.take_append_drop,List.take_append_drop]
  have hres:segs (ss.set j (.vec k n (cpV v lo.toNat m)))=segs (ss.take j)++((lumpV k n v.toList).take lo.toNat++(w.map (Value.int k)++(lumpV k n v.toList).drop (lo.toNat+w.length))++segs (ss.drop (j+1))):=by
    rw [List.set_eq_take_append_cons_drop,if_pos hil,dH]
    simp only [segs,Seg.cells]
    rw [ecp,w6 hbnd]
  have go:stAll h ⟨p.block,off+lo.toNat,none⟩ 0 (w.map (Value.int k)) fun h'=>K (min m.length len:Nat) h':=by
    refine jD (T:=T) (z:=(0,0)) (w.map (Value.int k)) (((lumpV k n v.toList).drop lo.toNat).take w.length) h (segs (ss.take j)++(lumpV k n v.toList).take lo.toNat) ((lumpV k n v.toList).drop (lo.toNat+w.length)++segs (ss.drop (j+1))) 0 ?_ (by simp [hl]; omega)
      (by rw [List.length_append,dS,List.length_take,hl]; omega) (.inl (Nat.zero_le _)) (fun x hx=>by simp only [List.mem_map] at hx; obtain ⟨y,_,rfl⟩:=hx; rfl) fun h' hb' hk _=>fin h' ?_ hk
    · rw [hb, hcells]; congr 2
      conv=>lhs; rw [hsplit]
      simp only [List.append_assoc]
    · rw [hb', hres]
      simp only [List.append_assoc]
  unfold resl
  by_cases hc:n=lo.toNat
  · rw [if_pos hc]
    have hw0:w=[]:=List.length_eq_zero_iff.1 (by omega)
    show stAll h (p.add off) 0 (w.map (Value.int k)) _
    rw [hw0] at hres ⊢
    refine fin h ?_ (Keep.refl _ _)
    rw [hb,hres,hcells]
    simp
  · rw [if_neg hc]
    show stAll h ((p.add off).add (lo.toNat*1)) 0 (w.map (Value.int k)) _
    rw [add_add,add_eq p0 p1,Nat.mul_one]
    exact go
def WN (l:List Int) (K:ByteArray→Prop):Prop:= ∃ b:ByteArray,bts b=l∧K b
theorem WO {nl:Nat} {l:List Int} {K':ByteArray→Prop} {K:(Hp→Prop)→ByteArray→Prop} (hX:Rd (rI .u8) a' a nl c l) (I:Inv h (a'::A)) (H:WN l K') (kk: ∀ f b,K' b→K f b):NF h ⟨a,nl,c⟩ K:=by
  obtain rfl:=fD hX I
  obtain ⟨b,rfl,HK⟩:=H
  obtain ⟨F,M,hP⟩:=I.get
  obtain ⟨_,vs,g1,g2,g3⟩:=hX hP
  obtain rfl:=qO.1 g3
  have e:(bts b).map (Value.int .u8)=byteVals b:=by simp [bts,byteVals]
  unfold NF
  cases a with
  | none =>
    have h2:=g1.2
    simp only at h2
    have hb:b= .empty:=by
      have:(bts b)=[]:=by simpa using h2
      cases b; simp [bts] at this; subst this; rfl
    subst hb
    exact kk _ _ HK
  | some x =>
    have h3:=g1.cellsAt
    rw [e,Nat.mul_one] at h3
    exact ⟨b,h3,kk _ _ HK⟩
theorem WQ {b:ByteArray} {K:Sl→Hp→Prop} (I:Inv h A) (kk: ∀ a1 c1 h',Inv h' (ownS (rI .u8) a1 (bts b).length c1 (bts b)::A)→K ⟨a1,(bts b).length,c1⟩ h'):s2b T h b K:=by
  intro c hc
  have e:(bts b).map (Value.int .u8)=byteVals b:=by simp [bts,byteVals]
  have:=kk (some ⟨h.size,0,none⟩) c (h.push (.cells (byteVals b++List.replicate (c - b.size) (Value.int .u8 0)).toArray T (c,c+1))) ?_
  · simpa using this
  · obtain ⟨F, M, hF, _, _, _, H⟩ := I.eH.turn
    have hF:F=[]:=hF
    subst hF
    refine H _ [_] [[h.size]] (Keep.push _ _ _) (fun b hb=> .inr (by simp at hb; omega)) (by simp) fun M' _ _ _=>⟨⟨rfl,T,byteVals b,⟨by simp [byteVals],by simpa using hc,rfl,rfl,[],List.replicate (c - b.size) (Value.int .u8 0),(c,c+1),by simp,rfl, ?_, .inr (by simp)⟩,qO.2 e.symm⟩,trivial⟩
    simp [byteVals]; omega
theorem DB {s:ByteArray} {lo hi:Int} {K' K:ByteArray→Prop} (H:stW s lo hi K') (kk: ∀ x,K' x→K x):stW s lo hi K:=⟨H.1,H.2.1,kk _ H.2.2⟩
def allOne (vs:List Value):Bool:=vs.all fun v=>v.oneCell'
theorem dD {vs:List Value} (h:allOne vs=true): ∀ v ∈ vs,v.oneCell'=true:=by simpa [allOne] using h
theorem dn (k:IntKind) (n:Nat) (l:List Int):allOne (lumpV k n l)=true:=by
  simp only [allOne,List.all_eq_true,lumpV,List.mem_map]
  rintro v ⟨x,_,rfl⟩
  rfl
theorem xZ:SlE E h M none 0 []:=⟨[],SlV.nil _ _,Nat.le_refl _,fun h=>absurd rfl h,rfl⟩
theorem GY {i:Nat} (u v:List Value) (h:u.length=i):(u++v).drop i=v:=by subst h; simp
theorem GX {l:List Int} {r:List Value} (hc: ∀ j v,vs[j]? =some v→hcell h (p.add j)=some v) (off:Nat) (e:vs.drop off=lumpV k n l++r):lfact k n l (p.add off) h:=by
  intro j hj
  rw [add_add]
  refine hc _ _ ?_
  rw [← List.getElem?_drop,e,List.getElem?_append_left (by rw [cJ]; exact hj),qQ k n l j hj]
theorem zw {F G:List Nat} {Gs:List (List Nat)} (e:F=(G::Gs).flatten) (H:(blk p T ss).P h G M):p.block ∈ F∧p.off=0∧p.spot=none:=by
  obtain ⟨h1,h2,h3,_⟩:=H
  exact ⟨by rw [e,h1]; simp,h2,h3⟩
end Go.Pu
namespace Go.Pu
open Go Go.Wc
variable {X:Type} {E:Rp X} {h h':Hp} {l m:List X} {A:List At} {a a2:Option Addr} {c c2 T n bytes:Nat} {a':At} {z:Value} {z0:X}
theorem BU {X X' Y Y':Prop} (H:X'∧Y') (h1:X'→X) (h2:Y'→Y):X∧Y:=⟨h1 H.1,h2 H.2⟩
theorem Ma {nl:Nat} {l:List X} (hX:Rd E a' none nl c l) (I:Inv h (a'::A)) (hn:E.n ≠ 0):l=[]:=by
  obtain ⟨F,M,hP⟩:=I.get
  obtain ⟨_,vs,g1,g2,g3⟩:=hX hP
  have h2:=g1.2
  simp only at h2
  subst h2
  have:=g1.1
  have h3:0=l.length*E.n:=this
  rcases Nat.mul_eq_zero.1 h3.symm with e | e
  · exact List.length_eq_zero_iff.1 e
  · exact absurd e hn
def cloneP (l:List X) (Q:List X→Prop):Prop:=Bnd l.length∧Q l
theorem Di {nl:Nat} {Q':List X→Prop} {Q:Sl→Hp→Prop} (hX:Rd E a' a nl c l) (I:Inv h (a'::A)) (hn:E.n ≠ 0) (hz:z.cells.size=E.n) (hb:bytes ≠ 0) (hbb:bytes≤30000) (H:cloneP l Q')
    (k: ∀ r ra rc h',Inv h' (ownS E ra r.length rc r::a'::A)→Q' r→Q ⟨ra,r.length,rc⟩ h'):
    br (Option.isNone a) (Q ⟨none,0,0⟩ h) (alW h T [] fun p h2=>apW T E.n bytes z h2 ⟨some p,0,0⟩ ⟨a,nl,c⟩ fun s h4=>Q s h4):=by
  obtain ⟨H1,H2⟩:=H
  obtain rfl:=fD hX I
  cases a with
  | none =>
    rw [Option.isNone_none,ak]
    obtain rfl:=Ma hX I hn
    exact k [] none 0 h (I.nilO E) H2
  | some x =>
    rw [Option.isNone_some,aa]
    refine jy [] rfl I fun p h I=> ?_
    refine Ad (l:=[]) hX (I.aft E) hz hb hbb (by simpa using H1) fun a1 c1 h I=> ?_
    exact k _ _ _ _ I H2
theorem I6 {l:List X} {i:Int}:sub l 0 i=l.take i.toNat:=by simp [sub]
theorem I7 {l:List X} {i:Int}:sub l i (l.length:Int)=l.drop i.toNat:=by simp [sub]
theorem I8 {nl:Nat} {l:List X} (I:Inv h (ownS E none nl c l::A)):l=[]:=by
  obtain ⟨F,M,_,T',vs,g1,g2⟩:=I.get
  have h2:=g1.2
  simp only at h2
  exact List.length_eq_zero_iff.1 (by omega)
end Go.Pu
namespace Go.Tx
open Go Go.Wc
def pq (_ : Ids) (s : Sl) (h : Hp) (Q : Hp → Prop) : Prop :=
  (s.len=0∧Q h)∨
  ∃ (blk off : Nat) (zs : List Int) (pre post : List Value) (T : Nat) (z : Nat × Nat), s.a = some ⟨blk, off, none⟩ ∧ zs.length = s.len ∧ zs.length < 4611686018427387904 ∧
    h[blk]? =some (.cells (pre++zs.map (Value.int .i64)++post).toArray T z)∧pre.length=off∧(z.2≤off∨off+zs.length≤z.1)∧
    ∀ os:Array Obj,Q (h.setIfInBounds blk (.cells (pre++(zs.mergeSort fun x y=>decide (x≤y)).map (Value.int .i64)++post).toArray T z)++os)
def yK (ρ:Ids):Spec:=fun args h K=>
  (tS fun s=>tN (pq ρ s h (fun h=>K (.tuple #[]) h))) args
def sortedOut (h h':Hp) (s:Sl) (ks:List Int):Prop:=
  (s=⟨none,0,0⟩∧ks=[])∨
  ∃ (g cap T:Nat) (cur:Array Value),s=⟨some ⟨g,0,none⟩,ks.length,cap⟩∧h.size≤g∧h'[g]? =some (.cells cur T (0,0))∧ks.length≤cap∧cur.size=cap∧cur.toList.take ks.length=ks.map (Value.int .i64)
def iF (gs : List Nat) (ρ : Ids) (f : Value) (h : Hp) (Q : Sl → Hp → Prop) : Prop :=
  ∃ (k b : Nat) (m : Option Nat), k ∈ gs ∧ f = .func (.func (ρ.G k)) #[] #[.pointer (some ⟨b, 0, none⟩)] ∧ hcell h ⟨b, 0, none⟩ = some (.map m) ∧
    match m with
    | none=> ∀ h':Hp,h.size≤h'.size→(∀ b,b<h.size→h'[b]? =h[b]?)→Q ⟨none,0,0⟩ h'
    | some r => ∃ (es : Array MapEntry) (ck : Nat) (L : List Int), h[r]? = some (.map es ck) ∧ MapKept.Stamped es ck ∧ L.length ≤ 4294967296 ∧ es.toList.map (·.key) = L.map (Value.int .i64) ∧ (∀ x ∈ L, IntKind.min .i64 ≤ x ∧ x ≤ IntKind.max .i64) ∧
      ∀ (h':Hp) (s:Sl),h.size≤h'.size→(∀ b,b<h.size→h'[b]? =h[b]?)→sortedOut h h' s (L.mergeSort fun x y=>decide (x≤y))→Q s h'
def fO (gs:List Nat) (ρ:Ids):Spec:=fun args h K=>
  (tV fun f=>tN (iF gs ρ f h (fun s h=>K (.slice s.a s.len s.cap) h))) args
end Go.Tx
namespace Go.Wc
theorem lC {a b:Nat} {φ ψ:Prop} (h:Nat.ble a b=true) (e:φ=ψ) (H:φ):a≤b∧ψ:=⟨QC h,cast e H⟩
end Go.Wc
namespace Go.Pu
open Go Go.Wc
variable {X:Type} {E:Rp X} {h:Hp} {A:List At} {a:Option Addr} {c:Nat} {l:List X} {z0:X} {z:Value}
end Go.Pu
namespace Go.Pu
open Go Go.Wc
variable {κ V:Type} [DecidableEq κ]
theorem ot (L : List (κ × V)) (k : κ) (v : V) (j : κ) : look (upd L k v) j = if j = k then some v else look L j := by
  induction L with
  | nil=>simp only [upd,look]
  | cons x L ih =>
    obtain ⟨a,w⟩:=x
    simp only [upd]
    by_cases h:k=a
    · subst h
      rw [if_pos rfl]
      simp only [look]
      split <;> rfl
    · rw [if_neg h]
      simp only [look,ih]
      by_cases h2:j=a
      · subst h2
        rw [if_pos rfl,if_pos rfl,if_neg (fun e=>h e.symm)]
      · rw [if_neg h2,if_neg h2]
theorem zN (L:List (κ × V)) (k:κ) (v:V):(upd L k v).map (·.1)=if k ∈ L.map (·.1) then L.map (·.1) else L.map (·.1)++[k]:=by
  induction L with
  | nil=>simp [upd]
  | cons x L ih =>
    obtain ⟨a,w⟩:=x
    simp only [upd]
    by_cases h:k=a
    · subst h; simp
    · rw [if_neg h]
      simp only [List.map_cons,List.mem_cons,h,false_or,ih]
      split <;> simp
theorem EG {L:List (κ × V)} (hn:(L.map (·.1)).Nodup) (k:κ) (v:V):((upd L k v).map (·.1)).Nodup:=by
  rw [zN]
  split
  · exact hn
  · rename_i h
    rw [List.nodup_append]
    refine ⟨hn,by simp,fun a ha b hb=> ?_⟩
    rw [List.mem_singleton] at hb
    subst hb
    intro e; subst e; exact h ha
theorem xY {X:Type} {l:List X} {i:Nat} {x:X} {K:X→Prop} (hx:l[i]? =some x) (H:K x):ixP l (i:Int) K:=⟨by omega,x,by rw [Int.toNat_natCast]; exact hx,H⟩
theorem eE {X:Type} {l:List X} {i:Int} {K:X→Prop} (H:ixP l i K):ixP l i (fun x=>l[i.toNat]? =some x∧K x):=by
  obtain ⟨h0,x,hx,hK⟩:=H
  exact ⟨h0,x,hx,hx,hK⟩
def Seg.okB:Seg→Bool
  | .one v=>v.oneCell'
  | .vec _ _ _=>true
theorem gq {ss : List Seg} (h : ss.all Seg.okB = true) : ∀ v ∈ segs ss, v.oneCell' = true := by
  induction ss with
  | nil=>intro v hv; simp [segs] at hv
  | cons s ss ih =>
    rw [List.all_cons,Bool.and_eq_true] at h
    intro v hv
    have e:segs (s::ss)=s.cells++segs ss:=by simp [segs]
    rw [e,List.mem_append] at hv
    rcases hv with hv | hv
    · cases s with
      | one w =>
        have:v=w:=by simpa [Seg.cells] using hv
        subst this; exact h.1
      | vec k n w =>
        have:=dn k n w.toList
        exact dD this v (by simpa [Seg.cells] using hv)
    · exact ih h.2 v hv
theorem pY {X:Type} {E:Rp X} {a':At} {a:Option Addr} {nl n2 c:Nat} {l:List X} {lo hi:Int} (hX:Rd E a' a nl c l) (H:SlOk l lo hi) (hn:n2=(sub l lo hi).length):Rd E a' (resl a c E.n lo) n2 (c - lo.toNat) (sub l lo hi):=by
  intro h F M hP
  refine ⟨hn, ?_⟩
  obtain ⟨_,vs,g1,g2,g3⟩:=hX hP
  obtain ⟨h0,h1,h2⟩:=H
  obtain ⟨k1,k2⟩:=Dy g1 h0 h1 h2 g2
  have hsl:=dQ (l:=l) ⟨h0,h1,h2⟩
  exact ⟨_,by rw [hsl]; exact k1,by rw [hsl]; exact k2,g3.sub (by omega) (by omega)⟩
end Go.Pu
namespace Go.Pu
open Go Go.Wc
variable {X:Type} {E:Rp X} {h:Hp} {A:List At} {a a2:Option Addr} {c c2:Nat} {l m:List X} {a':At}
def cpP (l:List X) (i n:Nat) (m:List X):List X:=l.take i++m.take (min m.length n)++l.drop (i+min m.length n)
theorem B9 {i n:Nat} (h:i+n≤l.length):(cpP l i n m).length=l.length:=by
  simp only [cpP,List.length_append,List.length_take,List.length_drop]; omega
theorem WR {nl nm n2 i : Nat} {K : Int → Hp → Prop} (hX : Rd E a' a2 nm c2 m) (I : Inv h (ownS E a nl c l :: a' :: A)) (hi : i + n2 ≤ l.length) (k : ∀ h', Inv h' (ownS E a nl c (cpP l i n2 m) :: a' :: A) → K (min nm n2 : Nat) h') :
    cpW E.n h ⟨resl a c E.n (i:Int),n2,c - i⟩ ⟨a2,nm,c2⟩ K:=by
  obtain rfl:=fD hX I.swap
  obtain rfl:=gp I
  have I0:=I
  obtain ⟨F,M,⟨F1,F2,eF,⟨_,T',vs,h1,h2⟩,h3⟩,hFM,hnd,hlt,H⟩:=I.sepI.turn
  subst eF
  obtain ⟨_,ws,g1,g2,g3⟩:=hX h3
  have hwl:=g3.len
  have hvl:=h2.len
  generalize hq:min m.length n2=q at*
  have hqm:q≤m.length:=by omega
  have hmin:q*E.n≤ws.length:=by rw [hwl]; exact Nat.mul_le_mul_right _ hqm
  have hqn:i+q≤l.length:=by omega
  have hc:l.length≤c:=h1.2.1
  have e1: ∀ h':Hp,Keep F1 h h'→Own h' ⟨a,l.length,c⟩ T' E.n (vs.take (i*E.n)++ws.take (q*E.n)++vs.drop ((i+q)*E.n)) F1→K (q:Nat) h':=fun h' hk hO=>by
    obtain ⟨d1,d2,d3⟩:=List.nodup_append.1 hnd
    have NC:=a'.lt h3
    have el:(cpP l i n2 m).length=l.length:=B9 hi
    refine k h' (H h' [_,a'] [F1,F2] (hk.mono fun b hb=> .inl (by simp [hb])) (fun b hb=> .inl (by rw [sK] at hb; exact hb)) (by rw [sK]; exact hnd) fun M' hL _ _=>⟨⟨el.symm,T',_,by rw [el]; exact hO, ?_⟩,a'.mono (fun b hb=>hk.2 b (NC b hb) fun e=>d3 b e b hb rfl) hL h3,trivial⟩)
    unfold cpP
    rw [hq]
    exact ((((h2.mono hL).take_drop i (by omega)).1).append ((g3.mono hL).take_drop q hqm).1).append ((h2.mono hL).take_drop (i+q) hqn).2
  unfold cpW
  dsimp only
  rw [hq]
  refine ⟨ws.take (q*E.n), ?_, ?_⟩
  · have := (g1.take (i := q) hqm c2).cellsAt
    exact this
  · have hwq : (ws.take (q * E.n)).length = q * E.n := by rw [List.length_take]; omega
    cases a with
    | none =>
      have e:=I8 I0
      subst e
      have q0:q=0:=by simp at hqn; omega
      have i0:i=0:=by simp at hqn; omega
      have WT:vs=[]:=List.length_eq_zero_iff.1 (by simpa using hvl)
      have hK:K (q:Nat) h:=e1 h (Keep.refl _ _) (by subst q0 i0 WT; simpa using h1)
      have:resl none c E.n (i:Int)=none:=by unfold resl; split <;> rfl
      rw [this]
      exact hK
    | some x =>
      obtain ⟨o1,o2',o3⟩:=h1
      obtain ⟨b,o,sp⟩:=x
      obtain ⟨hf,hs,pre,post,fz,hbk,hp,EU,Rn⟩:=o3
      simp only at hs hbk hp hf Rn o1 o2' EU; subst hs
      have hcn:l.length*E.n≤c*E.n:=Nat.mul_le_mul_right _ hc
      have hin:(i+q)*E.n≤l.length*E.n:=Nat.mul_le_mul_right _ hqn
      have him:(i+q)*E.n=i*E.n+q*E.n:=Nat.add_mul _ _ _
      by_cases hci:c=i
      · have q0 : q = 0 := by omega
        have e2:ws.take (q*E.n)=[]:=by rw [q0]; simp
        have hK:K (q:Nat) h:=e1 h (Keep.refl _ _) ⟨by simp only [List.length_append,List.length_take,List.length_drop]; omega,o2',hf,rfl,pre,post,fz,by
          rw [hbk,e2,q0]; congr 2; simp,hp,by simp only [List.length_append,List.length_take,List.length_drop]; omega,Rn⟩
        have:resl (some ⟨b,o,none⟩) c E.n (i:Int)=some ⟨b,o,none⟩:=by unfold resl; rw [if_pos (by simpa using hci)]
        rw [this,e2]
        exact hK
      · have : resl (some ⟨b, o, none⟩) c E.n (i : Int) = some ⟨b, o + i * E.n, none⟩ := by unfold resl; rw [if_neg (by simpa using hci)]; simp
        rw [this]
        refine jD (T:=T') (z:=fz) (ws.take (q*E.n)) ((vs.drop (i*E.n)).take (q*E.n)) h (pre++vs.take (i*E.n)) (vs.drop ((i+q)*E.n)++post) 0 ?_ (by simp only [List.length_take,List.length_drop]; omega) (by simp only [List.length_append,List.length_take]; omega) (by rw [hwq]; omega) (fun v hv=>g3.one v (List.mem_of_mem_take hv)) fun h' hb' k' hs'=> ?_
        · rw [hbk]
          congr 2
          simp only [List.append_assoc]
          rw [him,← List.drop_drop]
          conv=>lhs; rw [← List.take_append_drop (i*E.n) vs,← List.take_append_drop (q*E.n) (vs.drop (i*E.n))]
          simp only [List.append_assoc]
        · refine e1 h' (by rw [hf]; exact k') ⟨by simp only [List.length_append,List.length_take,List.length_drop]; omega,o2',hf,rfl,pre,post,fz,by rw [hb']; simp only [List.append_assoc],hp,by simp only [List.length_append,List.length_take,List.length_drop]; omega,Rn⟩
theorem Mb {lo hi:Int} (H:SlOk l lo hi):lo.toNat+(sub l lo hi).length≤l.length:=by
  have:=dQ H
  obtain ⟨h0,h1,h2⟩:=H
  omega
end Go.Pu
namespace Go.Pu
open Go Go.Wc
def bytesL (l:List Int):Prop:= ∀ x ∈ l,0≤x∧x<256
theorem wrap_u8 (n:Int):IntKind.wrap .u8 n=n % 256:=by
  simp [IntKind.wrap,IntKind.signed,IntKind.bits]
theorem wrap_u64 {n:Int} (h0:0≤n) (h1:n<18446744073709551616):IntKind.wrap .u64 n=n:=by
  simp only [IntKind.wrap,IntKind.signed,IntKind.bits,Bool.false_and,Bool.false_eq_true,if_false]
  exact Int.emod_eq_of_lt h0 (by simpa using h1)
end Go.Pu
namespace Go.Pu
open Go Go.Wc
variable {X V:Type} {E:Rp X} {h:Hp} {A:List At} {a' b':At} {a a2:Option Addr} {c c2 T:Nat} {l m:List X} {p:Addr} {ss:List Seg}
theorem Qw {n c1:Nat} (hX:Rd E a' a n c l) (hc:l.length≤c1):Rd E a' a n c1 l:=fun hP=>by
  obtain ⟨e,vs,g1,g2,g3⟩:=hX hP
  exact ⟨e,vs,⟨g1.1,g1.2⟩,hc,g3⟩
theorem I9 {n c0 c1:Nat} {a1:Option Addr} {l0:List X} (hX:Rd E a' a n c0 l0):Rd E a' a1 0 c1 ([]:List X):=fun hP=>by
  refine ⟨rfl,[],⟨by simp, ?_⟩,Nat.zero_le _,rfl⟩
  cases a1 with
  | none=>rfl
  | some x=>exact ⟨fun h=>absurd rfl h,fun i hi=>absurd hi (by simp)⟩
theorem Mc {k:IntKind} {n:Nat} {off j:Nat} {v:Vector Int n} {lo:Int} {a1:Option Addr} {c1 len nm:Nat} {m:List Int} {K:Int→Hp→Prop} (hv:segAt ss j 0=some (off, .vec k n v)) (hs:VSl p off n lo a1 c1) (h0:0≤lo∧lo≤n) (hlen:len=n - lo.toNat)
    (hX:Rd (rI k) (blk p T ss) a2 nm c2 m) (I:Inv h (blk p T ss::A))
    (kk: ∀ h',Inv h' (blk p T (ss.set j (.vec k n (cpV v lo.toNat m)))::A)→K (min nm len:Nat) h'):cpW 1 h ⟨a1,len,c1⟩ ⟨a2,nm,c2⟩ K:=by
  obtain rfl:=fD hX I
  obtain ⟨F,M,⟨hF,p0,p1,hb⟩,hFM,hnd,hlt,H⟩:=I.turn
  obtain ⟨_,us,g1,g2,g3⟩:=hX (h:=h) (F:=F) (M:=M) ⟨hF,p0,p1,hb⟩
  obtain rfl:=qO.1 g3
  obtain ⟨e1,e2⟩:=fE hv
  obtain ⟨_,hil⟩:=qR (t:= .vec k n v) hv rfl
  obtain ⟨rfl,rfl⟩:=hs
  have hl:(lumpV k n v.toList).length=n:=cJ _ _ _
  let w:=m.take (min m.length len)
  have hw:w.length=min m.length len:=by simp only [w,List.length_take]; omega
  have hbnd:lo.toNat+w.length≤n:=by omega
  refine ⟨w.map (Value.int k), ?_, ?_⟩
  · have := (g1.take (i := min m.length len) (Nat.min_le_left _ _) c2).cellsAt
    simpa [w,List.map_take] using this
  have ecp:cpV v lo.toNat m=toV n (v.toList.take lo.toNat++(w++v.toList.drop (lo.toNat+w.length))):=by
    unfold cpV cpL
    have hdl:(v.toList.drop lo.toNat).length=len:=by simp; omega
    rw [hdl,List.drop_drop]
    have q1:m.take len=w:=by
      simp only [w]; rw [List.take_eq_take_iff]; omega
    have q2:v.toList.drop (lo.toNat+m.length)=v.toList.drop (lo.toNat+w.length):=by
      rw [hw]
      rcases Nat.le_total m.length len with h | h
      · rw [Nat.min_eq_left h]
      · rw [Nat.min_eq_right h,List.drop_eq_nil_of_le (by simp; omega),List.drop_eq_nil_of_le (by simp; omega)]
    rw [q1,q2]
  have fin: ∀ h',h'[p.block]? =some (.cells (segs (ss.set j (.vec k n (cpV v lo.toNat m)))).toArray T (0,0))→Keep [p.block] h h'→K (min m.length len:Nat) h':=by
    intro h' hb' hk
    exact kk h' (H h' [_] [F] (hk.mono fun b hb=> .inl (by rw [hF]; exact hb)) (fun b hb=> .inl (by simpa using hb)) (by simpa using hnd) fun M' hL _ _=>⟨⟨hF,p0,p1,hb'⟩,trivial⟩)
  have hcells:segs ss=segs (ss.take j)++(lumpV k n v.toList++segs (ss.drop (j+1))):=by
    conv=>lhs; rw [e1,dH]
    rfl
  have hsplit:lumpV k n v.toList=(lumpV k n v.toList).take lo.toNat++(((lumpV k n v.toList).drop lo.toNat).take w.length++(lumpV k n v.toList).drop (lo.toNat+w.length)):=by
    rw [← List.drop_drop,List.take_append_drop,List.take_append_drop]
  have hres:segs (ss.set j (.vec k n (cpV v lo.toNat m)))=segs (ss.take j)++((lumpV k n v.toList).take lo.toNat++(w.map (Value.int k)++(lumpV k n v.toList).drop (lo.toNat+w.length))++segs (ss.drop (j+1))):=by
    rw [List.set_eq_take_append_cons_drop,if_pos hil,dH]
    simp only [segs,Seg.cells]
    rw [ecp,w6 hbnd]
  have go:stAll h ⟨p.block,off+lo.toNat,none⟩ 0 (w.map (Value.int k)) fun h'=>K (min m.length len:Nat) h':=by
    refine jD (T:=T) (z:=(0,0)) (w.map (Value.int k)) (((lumpV k n v.toList).drop lo.toNat).take w.length) h (segs (ss.take j)++(lumpV k n v.toList).take lo.toNat) ((lumpV k n v.toList).drop (lo.toNat+w.length)++segs (ss.drop (j+1))) 0 ?_ (by simp [hl]; omega)
      (by rw [List.length_append,dS,List.length_take,hl]; omega) (.inl (Nat.zero_le _)) (fun x hx=>by simp only [List.mem_map] at hx; obtain ⟨y,_,rfl⟩:=hx; rfl) fun h' hb' hk _=>fin h' ?_ hk
    · rw [hb, hcells]; congr 2
      conv=>lhs; rw [hsplit]
      simp only [List.append_assoc]
    · rw [hb', hres]
      simp only [List.append_assoc]
  unfold resl
  by_cases hc:n=lo.toNat
  · rw [if_pos hc]
    have hw0:w=[]:=List.length_eq_zero_iff.1 (by omega)
    show stAll h (p.add off) 0 (w.map (Value.int k)) _
    rw [hw0] at hres ⊢
    refine fin h ?_ (Keep.refl _ _)
    rw [hb,hres,hcells]
    simp
  · rw [if_neg hc]
    show stAll h ((p.add off).add (lo.toNat*1)) 0 (w.map (Value.int k)) _
    rw [add_add,add_eq p0 p1,Nat.mul_one]
    exact go
theorem jq {k:IntKind} {n:Nat} {i:Int} {off j:Nat} {v:Vector Int n} {q:Addr} {x:Int} (I:Inv h (blk p T ss::A)) (hv:segAt ss j 0=some (off, .vec k n v)) (hq:VAdr p off i q) (hb:0≤i∧i<n) (hg:v.toList[i.toNat]? =some x):
    hcell h q=some (.int k x):=by
  have key:ixW (some (p.add off)) n i 1 fun q'=>q'=q→hcell h q'=some (.int k x):=by
    refine jm (K':=fun y=>y=x) I hv ⟨hb.1,x,hg,rfl⟩ fun q' y hq' hb' hc e he=> ?_
    subst e; exact hc
  obtain ⟨a,e1,e2,e3⟩:=key
  cases e1
  unfold VAdr at hq
  subst hq
  exact e3 rfl
theorem withB {φ:Prop} (b:Bool) (k: ∀ v,v=b→φ):φ:=k b rfl
def sortK (L:Option (List (Int × V))):List Int:=((L.getD []).map (·.1)).mergeSort fun x y=>decide (x≤y)
def sortKP (L:Option (List (Int × V))) (Q:List Int→Prop):Prop:=((L.getD []).length≤4294967296∧ ∀ x ∈ (L.getD []).map (·.1),IntKind.min .i64≤x∧x≤IntKind.max .i64)∧Q (sortK L)
theorem w9 {Ev:Rp V} {agg:Bool} {M:List Nat}: ∀ {es:List MapEntry} {L:List (Int × V)},fX (entR (kI .i64) Ev agg h M) es L→es.map (·.key)=(L.map (·.1)).map (Value.int .i64)
  | _,_, .nil=>rfl
  | e :: es, (k, x) :: L, .cons ⟨h1, _⟩ h2 => by
    simp only [List.map_cons,w9 h2]
    rw [h1]
theorem LV {ρ : Ids} {gs : List Nat} {k : Nat} {Ev : Rp V} {agg : Bool} {mm : Option Nat} {o : Option (Array MapEntry × Nat)} {L : Option (List (Int × V))} {Q' : List Int → Prop} {Q : Sl → Hp → Prop} (hk : k ∈ gs)
    (I:Inv h (blk p T [.one (.map mm)]::mapX (kI .i64) Ev agg mm o L::A)) (H:sortKP L Q')
    (kk: ∀ (r:List Int) (ra:Option Addr) (rc:Nat) (h':Hp),Inv h' (ownS (rI .i64) ra r.length rc r::blk p T [.one (.map mm)]::mapX (kI .i64) Ev agg mm o L::A)→Q' r→Q ⟨ra,r.length,rc⟩ h'):
    Tx.iF gs ρ (.func (.func (ρ.G k)) #[] #[.pointer (some p)]) h Q:=by
  have I2:=(I.sepI).eH
  obtain ⟨F,M,⟨F1,F2,eF,Qx,F3,F4,eF2,h3,h4⟩,hFM,hnd,hlt,HH⟩:=I2.sepI.turn
  have Qx:F1=[]:=Qx
  subst Qx
  simp only [List.nil_append] at eF
  subst eF eF2
  have h3':=h3
  obtain ⟨b1,b2,b3,b4⟩:=h3
  have ep:p=⟨p.block,0,none⟩:=by obtain ⟨x,y,z⟩:=p; simp only at b2 b3; subst b2 b3; rfl
  have Qy:hcell h ⟨p.block,0,none⟩=some (.map mm):=by unfold hcell; rw [b4]; rfl
  have fin: ∀ (h':Hp) (ks:List Int) (s:Sl),h.size≤h'.size→(∀ b,b<h.size→h'[b]? =h[b]?)→Tx.sortedOut h h' s ks→Q' ks→Q s h':=by
    intro h' ks s hs hb ho hQ
    have hkeep: ∀ F,Keep F h h':=fun F=>⟨hs,fun b hb' _=>hb b hb'⟩
    rcases ho with ⟨rfl,rfl⟩ | ⟨g,cap,T',cur,rfl,hg,hgc,c1,c2,c3⟩
    · refine kk [] none 0 h' ?_ hQ
      refine HH h' [ownS (rI .i64) none ([]:List Int).length 0 [],blk p T [.one (.map mm)],mapX (kI .i64) Ev agg mm o L] [[],F3,F4] (hkeep _) (fun b hb=> .inl (by simpa using hb)) (by simpa using hnd) fun M' hL _ _=>
        ⟨⟨rfl,0,[],Own.nil _ _ _,rfl⟩,At.mono _ (fun b hb'=>hb b (At.lt _ h3' b hb')) hL h3',At.mono _ (fun b hb'=>hb b (At.lt _ h4 b hb')) hL h4,trivial⟩
    · refine kk ks (some ⟨g, 0, none⟩) cap h' ?_ hQ
      refine HH h' [ownS (rI .i64) (some ⟨g,0,none⟩) ks.length cap ks,blk p T [.one (.map mm)],mapX (kI .i64) Ev agg mm o L] [[g],F3,F4] (hkeep _) (fun b hb=> ?_) ?_ fun M' hL _ _=>
        ⟨⟨rfl,T',ks.map (Value.int .i64),⟨by simp [rI],c1,rfl,rfl,[],cur.toList.drop ks.length,(0,0), ?_,rfl, ?_, .inl (Nat.le_refl _)⟩,qO.2 rfl⟩,At.mono _ (fun b hb'=>hb b (At.lt _ h3' b hb')) hL h3',At.mono _ (fun b hb'=>hb b (At.lt _ h4 b hb')) hL h4,trivial⟩
      · simp only [List.flatten_cons, List.flatten_nil, List.append_nil, List.mem_append, List.mem_singleton] at hb
        rcases hb with rfl | hb
        · exact .inr hg
        · exact .inl (List.mem_append.2 hb)
      · simp only [List.flatten_cons, List.flatten_nil, List.append_nil]
        refine List.nodup_append.2 ⟨by simp,hnd,fun x hx y hy e=> ?_⟩
        simp at hx; subst hx e
        have:=hlt _ (hFM _ hy)
        omega
      · rw [hgc,List.nil_append,← c3,List.take_append_drop]
      · have : cur.toList.length = cap := by simpa using c2
        simp only [List.length_map,List.length_drop,this,rI]
        omega
  obtain ⟨⟨hlen,hwf⟩,HQ⟩:=H
  refine ⟨k,p.block,mm,hk,by rw [← ep],Qy, ?_⟩
  match mm,o,L,h4,HQ,hlen,hwf,fin with
  | none, none, none, _, HQ, _, _, fin =>
    intro h' hs hb
    exact fin h' [] _ hs hb (.inl ⟨rfl,rfl⟩) (by simpa [sortK] using HQ)
  | some r, some (es, ck), some L, ⟨q1, q2, q3, q4⟩, HQ, hlen, hwf, fin =>
    refine ⟨es,ck,L.map (·.1),q2,q4,by simpa using hlen,w9 q3,hwf,fun h' s hs hb ho=>fin h' _ s hs hb ho (show Q' ((L.map (·.1)).mergeSort fun x y=>decide (x≤y)) from HQ)⟩
  | none,none,some _,hm,_,_,_,_=>exact (hm:False).elim
  | none,some _,none,hm,_,_,_,_=>exact (hm:False).elim
  | none,some _,some _,hm,_,_,_,_=>exact (hm:False).elim
  | some _,none,none,hm,_,_,_,_=>exact (hm:False).elim
  | some _,none,some _,hm,_,_,_,_=>exact (hm:False).elim
  | some _,some _,none,hm,_,_,_,_=>exact (hm:False).elim
end Go.Pu
namespace Go.Pu
open Go Go.Wc
variable {κ X:Type} [DecidableEq κ] {Kx:Ky κ} {E:Rp X} {h:Hp} {A:List At} {m:Option Nat} {o:Option (Array MapEntry × Nat)} {a:Option Addr} {c n:Nat} {l:List X} {key:κ} {L:Option (List (κ × List X))}
def rH:Rp Sl where
  n:=1
  P:=fun _ _ vs s=>vs=[.slice s.a s.len s.cap]
  len:=by rintro _ _ _ s rfl; rfl
  one:=by rintro _ _ _ s rfl; exact dD rfl
  mono:=by rintro _ _ _ _ _ s _ rfl; rfl
structure Row (X:Type) where
  a:Option Addr
  c:Nat
  l:List X
abbrev hd (r:Row X):Sl:=⟨r.a,r.l.length,r.c⟩
abbrev ls (T:List (κ × Row X)):List (κ × List X):=T.map fun p=>(p.1,p.2.l)
abbrev hs (T:List (κ × Row X)):List (κ × Sl):=T.map fun p=>(p.1,hd p.2)
abbrev owns (E:Rp X) (T:List (κ × Row X)):List At:=T.map fun p=>ownS E p.2.a p.2.l.length p.2.c p.2.l
def mapO (Kx:Ky κ) (E:Rp X) (m:Option Nat) (o:Option (Array MapEntry × Nat)) (L:Option (List (κ × List X))):At:=
  exA fun T:List (κ × Row X)=>factA (L=some (ls T)) (bigA (mapX Kx rH false m o (some (hs T))::owns E T))
def mapH (Kx : Ky κ) (E : Rp X) (m : Option Nat) (o : Option (Array MapEntry × Nat)) (L : Option (List (κ × List X))) (key : κ) (a : Option Addr) (c n : Nat) : At :=
  exA fun T:List (κ × Row X) × Row X × List (κ × Row X)=>factA ((∀ p ∈ T.1,p.1 ≠ key)∧L=some (ls (T.1++(key,T.2.1)::T.2.2))∧T.2.1.a=a∧T.2.1.c=c∧T.2.1.l.length=n)
    (bigA (mapX Kx rH false m o (some (hs (T.1++(key,T.2.1)::T.2.2)))::owns E (T.1++T.2.2)))
theorem Inv.perm {X Y:List At} (p:X.Perm Y): ∀ C,Inv h (X++C)→Inv h (Y++C):=by
  induction p with
  | nil=>exact fun C I=>I
  | cons x _ ih =>
    intro C I
    have:=ih (C++[x]) (by simpa using (show Inv h (x::(_++C)) from I).rot)
    exact Inv.rot' (X:=_++C) (by simpa using this)
  | swap x y l=>exact fun C I=>I.swap
  | trans _ _ i1 i2=>exact fun C I=>i2 C (i1 C I)
theorem uP {h h':Hp} {M M':List Nat}: ∀ {es:List MapEntry} {X Y:List (κ × Sl)},fX (entR Kx rH false h M) es X→fX (entR Kx rH false h' M') es Y→X=Y
  | _,_,_, .nil, .nil=>rfl
  | e :: es, (k1, s1) :: X, (k2, s2) :: Y, .cons ⟨a1, v1, b1, c1⟩ H1, .cons ⟨a2, v2, b2, c2⟩ H2 => by
    have e1:k1=k2:=Kx.inj (a1.symm.trans a2)
    simp only [rH] at c1 c2
    subst c1 c2
    have e2:=b1.symm.trans b2
    simp only [vOf,List.headD_cons,Value.slice.injEq] at e2
    have e3:s1=s2:=by cases s1; cases s2; simp_all
    rw [e1,e3,uP H1 H2]
theorem LQ {T:List (κ × Row X)} {r:Row X} {T2:List (κ × Row X)} (h: ∀ p ∈ T,p.1 ≠ key):look (hs (T++(key,r)::T2)) key=some (hd r):=by
  induction T with
  | nil=>simp [look]
  | cons p T ih =>
    have:=h p (by simp)
    simp only [hs,List.cons_append,List.map_cons,look]
    rw [if_neg (fun e=>this e.symm)]
    exact ih fun q hq=>h q (by simp [hq])
def lkOP (L:Option (List (κ × List X))) (key:κ) (K:List X→Prop):Prop:= ∃ L0 y,L=some L0∧look L0 key=some y∧K y
theorem Ir {T:List (κ × Row X)} {y:List X} (h:look (ls T) key=some y): ∃ T1 r T2,T=T1++(key,r)::T2∧(∀ p ∈ T1,p.1 ≠ key)∧r.l=y:=by
  induction T with
  | nil=>simp [look] at h
  | cons p T ih =>
    obtain ⟨k,r⟩:=p
    simp only [ls,List.map_cons,look] at h
    split at h
    · rename_i e; subst e
      exact ⟨[],r,T,rfl,by simp,by simpa using h⟩
    · rename_i e
      obtain ⟨T1,r',T2,rfl,h1,h2⟩:=ih h
      refine ⟨(k,r)::T1,r',T2,rfl,fun p hp=> ?_,h2⟩
      rcases List.mem_cons.1 hp with rfl | hp
      · exact fun e2=>e e2.symm
      · exact h1 p hp
theorem Is {K:(Hp→Prop)→Sl→Bool→Prop} {K':List X→Prop} (I:Inv h (mapO Kx E m o L::A)) (H:lkOP L key K')
    (k: ∀ f a1 c1 y,(∀ {h' A'},Inv h' (mapH Kx E m o L key a1 c1 y.length::A')→f h')→Inv h (ownS E a1 y.length c1 y::mapH Kx E m o L key a1 c1 y.length::A)→K' y→K f ⟨a1,y.length,c1⟩ true):
    lkW Kx.kd h m (Kx.enc key) fun f ov=>isS (ov.getD (.slice none 0 0)) fun y=>letB ov.isSome fun ok=>K f y ok:=by
  obtain ⟨T,I⟩:=I.exE
  obtain ⟨hL,I⟩:=I.factE
  obtain ⟨L0,y,e0,hy,HK⟩:=H
  rw [hL] at e0; cases e0
  obtain ⟨T1,r,T2,rfl,hn,rfl⟩:=Ir hy
  have I:=I.bigE
  have I:Inv h (mapX Kx rH false m o (some (hs (T1++(key,r)::T2)))::(owns E (T1++(key,r)::T2)++A)):=I
  have hlk:lkO (some (hs (T1++(key,r)::T2))) key=some (hd r):=by simp only [lkO,Option.getD_some]; exact LQ hn
  refine aeu (E:=rH) (zvs:=[.slice none 0 0]) (z0:=⟨none,0,0⟩) I rfl (fun _ _=>rfl) fun f ov vs h1 h2 hf J=> ?_
  have hvs:vs=[.slice r.a r.l.length r.c]:=by
    obtain ⟨F,M,_,hv⟩:=J.get
    rw [hlk] at hv
    exact hv
  subst hvs
  refine ⟨hd r,h1, ?_⟩
  show K f _ ov.isSome
  rw [h2,hlk]
  have J:=J.bN
  obtain ⟨F0,M0,HJ0⟩:=J.get
  refine k f r.a r.c r.l (fun {h' A'} JJ=> ?_) ?_ HK
  · obtain ⟨⟨S1, r', S2⟩, JJ⟩ := JJ.exE
    obtain ⟨⟨q1,q2,q3⟩,JJ⟩:=JJ.factE
    have JJ:=JJ.bigE
    have JJ:Inv h' (mapX Kx rH false m o (some (hs (S1++(key,r')::S2)))::(owns E (S1++S2)++A')):=JJ
    obtain ⟨F1,M1,HJ1⟩:=JJ.get
    have e:hs (S1++(key,r')::S2)=hs (T1++(key,r)::T2):=by
      match m,o,HJ0,HJ1 with
      | some rr,some (es,ck),⟨_,_,g,_⟩,⟨_,_,g',_⟩=>exact uP g' g
      | none,none,hm,_=>exact (hm:False).elim
      | none,some _,hm,_=>exact (hm:False).elim
      | some _,none,hm,_=>exact (hm:False).elim
    rw [e] at JJ
    exact hf JJ
  · have p : (mapX Kx rH false m o (some (hs (T1 ++ (key, r) :: T2))) :: owns E (T1 ++ (key, r) :: T2)).Perm (ownS E r.a r.l.length r.c r.l :: mapX Kx rH false m o (some (hs (T1 ++ (key, r) :: T2))) :: owns E (T1 ++ T2)) := by
      have:owns E (T1++(key,r)::T2)=owns E T1++ownS E r.a r.l.length r.c r.l::owns E T2:=by simp [owns]
      rw [this]
      have e2:owns E (T1++T2)=owns E T1++owns E T2:=by simp [owns]
      rw [e2]
      exact (List.Perm.cons _ List.perm_middle).trans (List.Perm.swap _ _ _)
    have I2:=Inv.perm p A (by simpa using J)
    have I3:Inv h (ownS E r.a r.l.length r.c r.l::((mapX Kx rH false m o (some (hs (T1++(key,r)::T2)))::owns E (T1++T2))++A)):=I2
    refine Inv.under I3 fun J3=> ?_
    have J4:=Inv.bigI (As:=mapX Kx rH false m o (some (hs (T1++(key,r)::T2)))::owns E (T1++T2)) (A:=A++[ownS E r.a r.l.length r.c r.l]) (by simpa using J3)
    exact (J4.factI ⟨hn,hL,rfl,rfl,rfl⟩).exI (T1,r,T2)
theorem LR {T1 T2:List (κ × Row X)} {r:Row X} {l':List X} (hn: ∀ p ∈ T1,p.1 ≠ key):upd (ls (T1++(key,r)::T2)) key l'=ls (T1++(key,⟨r.a,r.c,l'⟩)::T2):=by
  induction T1 with
  | nil=>simp [upd]
  | cons p T ih =>
    have:=hn p (by simp)
    simp only [ls,List.cons_append,List.map_cons,upd]
    rw [if_neg (fun e=>this e.symm)]
    have:=ih fun q hq=>hn q (by simp [hq])
    simp only [ls] at this
    rw [this]
theorem Inv.fillH {l':List X} (I:Inv h (ownS E a n c l'::mapH Kx E m o L key a c n::A)):Inv h (mapO Kx E m o (L.map (upd · key l'))::A):=by
  have hl:=gp I
  obtain ⟨⟨T1,r,T2⟩,I⟩:=(I.aX).exE
  obtain ⟨⟨hn,hL,ha,hc,hlen⟩,I⟩:=I.factE
  simp only at hn hL ha hc hlen
  have I:=I.bigE
  have I:Inv h ((mapX Kx rH false m o (some (hs (T1++(key,r)::T2)))::owns E (T1++T2))++(ownS E a n c l'::A)):=I
  let r':Row X:=⟨r.a,r.c,l'⟩
  have eh:hs (T1++(key,r)::T2)=hs (T1++(key,r')::T2):=by
    simp only [hs,List.map_append,List.map_cons,r',hd]
    rw [hlen,hl]
  have p:(mapX Kx rH false m o (some (hs (T1++(key,r')::T2)))::owns E (T1++T2)++[ownS E a n c l']).Perm (mapX Kx rH false m o (some (hs (T1++(key,r')::T2)))::owns E (T1++(key,r')::T2)):=by
    have e1:owns E (T1++(key,r')::T2)=owns E T1++ownS E r.a l'.length r.c l'::owns E T2:=by simp [owns,r']
    have e2:owns E (T1++T2)=owns E T1++owns E T2:=by simp [owns]
    rw [e1,e2,ha,hc,← hl]
    refine List.Perm.cons _ ?_
    have:(owns E T1++owns E T2++[ownS E a n c l']).Perm (ownS E a n c l'::(owns E T1++owns E T2)):=List.perm_append_comm
    exact this.trans List.perm_middle.symm
  rw [eh] at I
  have I2:=Inv.perm p A (by simpa using I)
  have J:=Inv.bigI I2
  exact (J.factI (by rw [hL]; simp only [Option.map_some]; rw [LR hn])).exI (T1++(key,r')::T2)
theorem Inv.toO (I:Inv h (mapX Kx (rS E) false m o (some [])::A)):Inv h (mapO Kx E m o (some [])::A):=by
  have:Inv h (mapX Kx rH false m o (some (hs ([]:List (κ × Row X))))::A):=I.conv fun F M H=>by
    match m,o,H with
    | some r, some (es, ck), ⟨h1, h2, h3, h4⟩ =>
      refine ⟨h1,h2, ?_,h4⟩
      cases he:es.toList with
      | nil=>exact .nil
      | cons x y=>rw [he] at h3; cases h3
    | none,none,hm=>exact (hm:False).elim
    | none,some _,hm=>exact (hm:False).elim
    | some _,none,hm=>exact (hm:False).elim
  have J:=Inv.bigI (As:=[mapX Kx rH false m o (some (hs ([]:List (κ × Row X))))]) this
  exact (J.factI rfl).exI []
theorem P7 {T:List (κ × Row X)} {r:Row X}: ∃ T',upd (hs T) key (hd r)=hs T'∧upd (ls T) key r.l=ls T'∧((T'=T++[(key,r)])∨ ∃ T1 r0 T2,T=T1++(key,r0)::T2∧T'=T1++(key,r)::T2):=by
  induction T with
  | nil=>exact ⟨[(key,r)],rfl,rfl, .inl rfl⟩
  | cons p T ih =>
    obtain ⟨k,q⟩:=p
    simp only [hs,ls,List.map_cons,upd]
    by_cases e:key=k
    · subst e
      simp only [if_true]
      exact ⟨(key,r)::T,rfl,rfl, .inr ⟨[],q,T,rfl,rfl⟩⟩
    · simp only [if_neg e]
      obtain ⟨T',h1,h2,h3⟩:=ih
      refine ⟨(k,q)::T',by simp only [hs,List.map_cons] at h1 ⊢; rw [h1],by simp only [ls,List.map_cons] at h2 ⊢; rw [h2], ?_⟩
      rcases h3 with rfl | ⟨T1,r0,T2,rfl,rfl⟩
      · exact .inl rfl
      · exact .inr ⟨(k,q)::T1,r0,T2,rfl,rfl⟩
theorem Vy {K : Hp → Prop} {K' : Option (List (κ × List X)) → Prop} (I : Inv h (ownS E a n c l :: mapO Kx E m o L :: A)) (H : muP L key l K')
    (k: ∀ h' o' L',Inv h' (mapO Kx E m o' L'::A)→K' L'→K h'):muW Kx.kd h m (Kx.enc key) (.slice a n c) K:=by
  obtain rfl:=gp I
  obtain ⟨T,I⟩:=(I.aX).exE
  obtain ⟨hL,I⟩:=I.factE
  obtain ⟨L0,e0,HK⟩:=H
  rw [hL] at e0; cases e0
  have I:=I.bigE
  have I:Inv h (mapX Kx rH false m o (some (hs T))::(owns E T++(ownS E a l.length c l::A))):=I
  have J:Inv h (repA rH [.slice a l.length c] ⟨a,l.length,c⟩::mapX Kx rH false m o (some (hs T))::(owns E T++(ownS E a l.length c l::A))):=I.rep fun _ _=>rfl
  obtain ⟨T',h1,h2,h3⟩:=P7 (T:=T) (key:=key) (r:=⟨a,c,l⟩)
  refine Vz (Kx:=Kx) (key:=key) (agg:=false) J rfl (K':=fun L'=>L'=some (upd (hs T) key ⟨a,l.length,c⟩)) ⟨_,rfl,rfl⟩ fun h' o' L' J2 e=> ?_
  subst e
  rw [show upd (hs T) key ⟨a,l.length,c⟩=hs T' from h1] at J2
  refine k h' o' _ ?_ HK
  have fin:Inv h' ((mapX Kx rH false m o' (some (hs T'))::owns E T')++A):=by
    have J3:Inv h' ((mapX Kx rH false m o' (some (hs T'))::owns E T++[ownS E a l.length c l])++A):=by simpa using J2
    rcases h3 with rfl | ⟨T1,r0,T2,rfl,rfl⟩
    · have e : owns E (T ++ [(key, (⟨a, c, l⟩ : Row X))]) = owns E T ++ [ownS E a l.length c l] := by simp [owns]
      rw [e]; simpa using J3
    · have p : (mapX Kx rH false m o' (some (hs (T1 ++ (key, (⟨a, c, l⟩ : Row X)) :: T2))) :: owns E (T1 ++ (key, r0) :: T2) ++ [ownS E a l.length c l]).Perm (ownS E r0.a r0.l.length r0.c r0.l :: (mapX Kx rH false m o' (some (hs (T1 ++ (key, (⟨a, c, l⟩ : Row X)) :: T2))) :: owns E (T1 ++ (key, (⟨a, c, l⟩ : Row X)) :: T2))) := by
        have e1:owns E (T1++(key,r0)::T2)=owns E T1++ownS E r0.a r0.l.length r0.c r0.l::owns E T2:=by simp [owns]
        have e2:owns E (T1++(key,(⟨a,c,l⟩:Row X))::T2)=owns E T1++ownS E a l.length c l::owns E T2:=by simp [owns]
        rw [e1,e2]
        refine List.Perm.trans ?_ (List.Perm.swap _ _ _)
        refine List.Perm.cons _ ?_
        have q1:(owns E T1++ownS E r0.a r0.l.length r0.c r0.l::owns E T2++[ownS E a l.length c l]).Perm (ownS E a l.length c l::(owns E T1++ownS E r0.a r0.l.length r0.c r0.l::owns E T2)):=List.perm_append_comm
        refine q1.trans ?_
        refine (List.Perm.cons _ List.perm_middle).trans ((List.Perm.swap _ _ _).trans (List.Perm.cons _ List.perm_middle.symm))
      exact (Inv.perm p A J3).bN
  have J:=Inv.bigI fin
  exact (J.factI (by rw [show upd (ls T) key l=ls T' from h2])).exI T'
end Go.Pu
namespace Go.Pu
@[reducible] def nzW (b:Int) (P:Unit→Prop):Prop:=match b with
  | .ofNat (.succ _)=>P ()
  | b=>b ≠ 0∧P ()
@[reducible] def mP (b:Int) (P:Unit→Prop):Prop:=match b with
  | .ofNat _=>P ()
  | b=>0≤b∧P ()
@[reducible] def mkW (b:Int) (P:Unit→Prop):Prop:=match b with
  | .ofNat n=>bif Nat.ble n 4294967296 then P () else False
  | _=>False
@[reducible] def subA {X:Type} (n:Nat) (l:List X) (lo hi:Int):List X:=match lo,hi with
  | .ofNat 0, .ofNat h=>bif Nat.beq h n then l else sub l lo hi
  | _,_=>sub l lo hi
theorem VA {b:Int} {P:Unit→Prop} (h:b ≠ 0) (hP:P ()):nzW b P:=by
  unfold nzW; split
  · exact hP
  · exact ⟨h,hP⟩
theorem Nh {b:Int} {P:Unit→Prop} (h:nzW b P):b ≠ 0∧P ():=by
  unfold nzW at h
  split at h
  · exact ⟨by simp; omega,h⟩
  · exact h
theorem gD {b:Int} {P:Unit→Prop} (h:0≤b) (hP:P ()):mP b P:=by
  unfold mP; split
  · exact hP
  · exact ⟨h,hP⟩
theorem It {b:Int} {P:Unit→Prop} (h:mP b P):0≤b∧P ():=by
  unfold mP at h
  split at h
  · exact ⟨Int.natCast_nonneg _,h⟩
  · exact h
theorem Nf {b:Int} {P:Unit→Prop} (h:0≤b∧b≤4294967296) (hP:P ()):mkW b P:=by
  obtain ⟨n,rfl⟩:=Int.eq_ofNat_of_zero_le h.1
  show cond (Nat.ble n 4294967296) _ _
  rw [Nat.ble_eq_true_of_le (by have:=h.2; omega)]; exact hP
theorem VB {b:Int} {P:Unit→Prop} (h:mkW b P):(0≤b∧b≤4294967296)∧P ():=by
  unfold mkW at h
  split at h
  · rename_i n
    cases hb:Nat.ble n 4294967296 with
    | false=>rw [hb] at h; exact h.elim
    | true=>rw [hb] at h; exact ⟨⟨Int.natCast_nonneg _,by have:=Nat.le_of_ble_eq_true hb; show (n:Int)≤_; omega⟩,h⟩
  · exact h.elim
theorem LS {X:Type} {n:Nat} {l:List X} {lo hi:Int} (h:l.length=n):subA n l lo hi=sub l lo hi:=by
  unfold subA
  split
  · rename_i k
    cases hb:Nat.beq k n with
    | false=>rfl
    | true =>
      have:k=n:=by simpa using hb
      subst this
      show l=sub l (Int.ofNat 0) (Int.ofNat k)
      unfold sub
      simp [← h]
  · rfl
theorem jQ {n:Nat} {v:Vector Int n} {lo hi:Int}:subA n v.toList lo hi=sub v.toList lo hi:=LS (by simp)
end Go.Pu
