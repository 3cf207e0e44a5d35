import Derived.Test.YtpjehkdneiclnaaCnPu4
set_option linter.unusedSimpArgs false
set_option linter.unusedVariables false
namespace Go.Pu
open Go Go.Wc
variable {X:Type} {E:Rp X} {h h':Hp} {l m:List X} {A:List At} {a a2:Option Addr} {c c2 T n bytes:Nat} {a':At} {z:Value} {z0:X}
theorem and2_r {X X' Y Y':Prop} (H:X'∧Y') (h1:X'→X) (h2:Y'→Y):X∧Y:=⟨h1 H.1,h2 H.2⟩
theorem phi_one {S:Spec} {id:Nat} {caps args:List Value} {K:Value→Hp→Prop} (H:S (args++caps) h K):phi [(id,S)] (.func (.func id) #[] caps.toArray) args h K:=by
  have e:Specs.get [(id,S)] id=some S:=by simp [Specs.get]
  simp only [phi,e]
  simpa using H
theorem rd_none {nl:Nat} {l:List X} (hX:Rd E a' none nl c l) (I:Inv h (a'::A)) (hn:E.n ≠ 0):l=[]:=by
  obtain ⟨F,M,hP⟩:=I.get
  obtain ⟨_,vs,g1,g2,g3⟩:=hX hP
  have h2:=g1.2
  simp only at h2
  subst h2
  have:=g1.1
  have h3:0=l.length*E.n:=this
  rcases Nat.mul_eq_zero.1 h3.symm with e | e
  · exact List.length_eq_zero_iff.1 e
  · exact absurd e hn
def cloneP (l:List X) (Q:List X→Prop):Prop:=Bnd l.length∧Q l
theorem clone_r {nl:Nat} {Q':List X→Prop} {Q:Sl→Hp→Prop} (hX:Rd E a' a nl c l) (I:Inv h (a'::A)) (hn:E.n ≠ 0) (hz:z.cells.size=E.n) (hb:bytes ≠ 0) (hbb:bytes≤30000) (H:cloneP l Q')
    (k: ∀ r ra rc h',Inv h' (ownS E ra r.length rc r::a'::A)→Q' r→Q ⟨ra,r.length,rc⟩ h'):
    br (Option.isNone a) (Q ⟨none,0,0⟩ h) (alW h T [] fun p h2=>apW T E.n bytes z h2 ⟨some p,0,0⟩ ⟨a,nl,c⟩ fun s h4=>Q s h4):=by
  obtain ⟨H1,H2⟩:=H
  obtain rfl:=rd_len hX I
  cases a with
  | none =>
    rw [Option.isNone_none,br_true]
    obtain rfl:=rd_none hX I hn
    exact k [] none 0 h (I.nilO E) H2
  | some x =>
    rw [Option.isNone_some,br_false]
    refine al_r [] rfl I fun p h I=> ?_
    refine ap_r (l:=[]) hX (I.lit0 E) hz hb hbb (by simpa using H1) fun a1 c1 h I=> ?_
    exact k _ _ _ _ I H2
def deleteP (l:List X) (i j:Int) (Q:List X→Prop):Prop:=SlOk l i j∧Bnd l.length∧Q (l.take i.toNat++l.drop j.toNat)
theorem sub_take {l:List X} {i:Int}:sub l 0 i=l.take i.toNat:=by simp [sub]
theorem sub_drop {l:List X} {i:Int}:sub l i (l.length:Int)=l.drop i.toNat:=by simp [sub]
theorem move_own {i j : Nat} {K : Sl → Hp → Prop} (I : Inv h (ownS E a l.length c l :: A)) (hij : i ≤ j) (hj : j ≤ l.length) (hz : z.cells.size = E.n) (hb : bytes ≠ 0) (hbb : bytes ≤ 30000) (hl : Bnd l.length) (ha : a = none → l = [])
    (k: ∀ h' (vs:List Value) (tl:List X),tl.length=j - i→Inv h' (ownS E a (l.take i++l.drop j++tl).length c (l.take i++l.drop j++tl)::A)→K ⟨a,(l.take i++l.drop j).length,c⟩ h'):
    apW T E.n bytes z h ⟨a,(l.take i).length,c⟩ ⟨resl a c E.n (j:Int),(l.drop j).length,c - j⟩ K:=by
  obtain ⟨F,M,⟨_,T',vs,g1,g2⟩,hFM,hnd,hlt,H⟩:=I.turn
  have g1':=g1
  obtain ⟨o1,o2,o3⟩:=g1
  simp only at o1 o2 o3
  have hcap:l.length*E.n≤c*E.n:=Nat.mul_le_mul_right _ o2
  have him:i*E.n≤j*E.n:=Nat.mul_le_mul_right _ hij
  have hjm:j*E.n≤l.length*E.n:=Nat.mul_le_mul_right _ hj
  have hsub:=(slv_sub (lo:=(j:Int)) (hi:=(l.length:Int)) g1'.slv (by omega) (by omega) (by omega) o2).1
  simp only [Int.toNat_natCast] at hsub
  rw [List.take_of_length_le (by omega)] at hsub
  have hlen:(l.drop j).length=l.length - j:=by simp
  have hti:(l.take i).length=i:=by simp; omega
  rw [hlen,hti]
  refine ⟨_,hsub.cellsAt, ?_⟩
  unfold apV
  rw [if_pos (by simp only; omega)]
  cases a with
  | none =>
    obtain rfl:=ha rfl
    have hi0:i=0:=by simp at hj; omega
    subst hi0
    simp only [List.length_nil]
    have:=k h [] [] (by simp at hj; simp; omega) (by simpa using I)
    simpa using this
  | some x =>
    obtain ⟨b,o,sp⟩:=x
    obtain ⟨hf,hs,pre,post,fz,hbk,hp,hl2,hz2⟩:=o3
    simp only at hs hbk hp hf hz2; subst hs
    simp only [add_mk]
    have hvd:(vs.drop (j*E.n)).length=l.length*E.n - j*E.n:=by simp; omega
    have hone:=g2.one
    refine stAll_mid (T:=T') (z:=fz) (vs.drop (j*E.n)) ((vs.drop (i*E.n)).take (l.length*E.n - j*E.n)) h (pre++vs.take (i*E.n)) (vs.drop (i*E.n+(l.length*E.n - j*E.n))++post) 0 ?_
      (by simp; omega) (by simp; omega) (by omega) (fun v hv=>hone v (List.mem_of_mem_drop hv)) fun h' hb' k' hs'=> ?_
    · rw [hbk]; congr 2
      conv=>lhs; rw [← List.take_append_drop (i*E.n) vs,← List.take_append_drop (l.length*E.n - j*E.n) (vs.drop (i*E.n))]
      simp only [List.append_assoc,List.drop_drop]
    · have hfin : (l.take i ++ l.drop j).length = i + (l.length - j) := by rw [List.length_append, hti, hlen]
      have e0:vs.drop (i*E.n+(l.length*E.n - j*E.n))=vs.drop ((i+(l.length - j))*E.n):=by rw [Nat.add_mul,Nat.sub_mul]
      have key:=k h' [] (l.drop (i+(l.length - j))) (by simp; omega) (H h' [_] [F] (by rw [hf]; exact k') (fun b hb=> .inl (by simpa using hb)) (by simpa using hnd) fun M' hL _ _=>
        ⟨⟨rfl,T',vs.take (i*E.n)++vs.drop (j*E.n)++vs.drop ((i+(l.length - j))*E.n),⟨?_, ?_,hf,rfl,pre,post,fz, ?_,hp, ?_,hz2⟩, ?_⟩,trivial⟩)
      · rw [hfin] at key; exact key
      · simp only [List.length_append, List.length_take, List.length_drop]
        rw [Nat.add_mul,Nat.add_mul,Nat.sub_mul]
        have:(i+(l.length - j))*E.n=i*E.n+(l.length*E.n - j*E.n):=by rw [Nat.add_mul,Nat.sub_mul]
        have e3:(l.length - (i+(l.length - j)))*E.n=l.length*E.n - (i*E.n+(l.length*E.n - j*E.n)):=by rw [Nat.sub_mul,this]
        have e4:min i l.length=i:=by omega
        rw [e3,e4]
        omega
      · simp only [List.length_append,List.length_take,List.length_drop]; omega
      · rw [hb',← e0]; simp only [List.append_assoc]
      · simp only [List.length_append, List.length_take, List.length_drop]
        have:(i+(l.length - j))*E.n=i*E.n+(l.length*E.n - j*E.n):=by rw [Nat.add_mul,Nat.sub_mul]
        omega
      · have g3 := g2.mono hL
        exact ((g3.take_drop i (by omega)).1.append (g3.take_drop j hj).2).append (g3.take_drop _ (by omega)).2
theorem own_none {nl:Nat} {l:List X} (I:Inv h (ownS E none nl c l::A)):l=[]:=by
  obtain ⟨F,M,_,T',vs,g1,g2⟩:=I.get
  have h2:=g1.2
  simp only at h2
  exact List.length_eq_zero_iff.1 (by omega)
theorem clear_tail {tl : List X} {K : Hp → Prop} (I : Inv h (ownS E a (l ++ tl).length c (l ++ tl) :: A)) (hz : ∀ h M, E.P h M z.cells.toList z0) (k : ∀ h', Inv h' (ownS E a l.length c l :: A) → K h') :
    slW ⟨a,l.length,c⟩ (l.length:Int) ((l++tl).length:Int) E.n fun s=>clW z h s K:=by
  obtain ⟨F,M,⟨_,T',vs,g1,g2⟩,hFM,hnd,hlt,H⟩:=I.turn
  have o2:=g1.2.1
  simp only [List.length_append] at o2 ⊢
  refine ⟨⟨by omega,by simp only; omega⟩,⟨by omega,by omega⟩, ?_⟩
  simp only [Int.toNat_natCast,Nat.add_sub_cancel_left]
  have hrep: ∀ h M n,Els E h M (zeros z n) (List.replicate n z0):=fun h M n=>by rw [zeros_flat]; exact Els.repl (hz _ _) _
  obtain ⟨u,w,rfl,hu,hw⟩:=Els.split g2
  have hul:=hu.len; have hwl:=hw.len
  have hzl:(zeros z tl.length).length=tl.length*E.n:=by have:=(hrep h M tl.length).len; simpa using this
  have fin: ∀ h',Keep F h h'→(∀ b ∈ F,True)→Own h' ⟨a,l.length+tl.length,c⟩ T' E.n (u++zeros z tl.length) F→K h':=fun h' hk _ hO=>by
    refine k h' (H h' [_] [F] hk (fun b hb=> .inl (by simpa using hb)) (by simpa using hnd) fun M' hL _ _=>⟨⟨rfl,T',u, ?_,hu.mono hL⟩,trivial⟩)
    have:=hO.take (i:=l.length) (by simp)
    rwa [← hul,List.take_left] at this
  have hO:Own h ⟨a,l.length+tl.length,c⟩ T' E.n (u++w) F:=by simpa using g1
  unfold clW
  cases ha:a with
  | none =>
    subst ha
    have e:=own_none I
    obtain ⟨rfl,rfl⟩:l=[]∧tl=[]:=by simpa using e
    simp only [List.length_nil,Nat.sub_zero]
    have hK:=k h (by simpa using I)
    split
    · exact hK
    · rename_i e2; simp at e2
  | some x =>
    subst ha
    obtain ⟨o1,o2',o3⟩:=hO
    obtain ⟨b,o,sp⟩:=x
    obtain ⟨hf,hs,pre,post,fz,hbk,hp,hl2,hz2⟩:=o3
    simp only at hs hbk hp hf hz2 o1 o2' hl2; subst hs
    have hcap:(l.length+tl.length)*E.n≤c*E.n:=Nat.mul_le_mul_right _ o2'
    rw [Nat.add_mul] at hcap
    have go:stAll h ⟨b,o+l.length*E.n,none⟩ 0 (zeros z tl.length) K:=by
      refine stAll_mid (T:=T') (z:=fz) (zeros z tl.length) w h (pre++u) post 0 (by rw [hbk]; simp only [List.append_assoc]) (by rw [hzl,hwl]) (by simp; omega) (by rw [hzl]; omega) (hrep h M _).one fun h' hb' k' hs'=> ?_
      refine fin h' (by rw [hf]; exact k') (fun _ _=>trivial) ⟨by simp only [List.length_append,hul,hzl,Nat.add_mul],o2',hf,rfl,pre,post,fz,by rw [hb']; simp only [List.append_assoc],hp, ?_,hz2⟩
      simp only [List.length_append,hul,hzl,hwl] at hl2 ⊢
      exact hl2
    by_cases hc:c=l.length
    · have e2 : tl.length = 0 := by omega
      have e3:zeros z tl.length=[]:=List.length_eq_zero_iff.1 (by rw [hzl,e2]; simp)
      rw [if_pos hc]
      have hK:K h:=fin h (Keep.refl _ _) (fun _ _=>trivial) ⟨by simp only [List.length_append,hul,hzl,Nat.add_mul],o2',hf,rfl,pre,post,fz,by
        rw [hbk]; congr 2
        have:w=[]:=List.length_eq_zero_iff.1 (by rw [hwl,e2]; simp)
        rw [this,e3],hp,by simp only [List.length_append,hul,hzl,hwl] at hl2 ⊢; exact hl2,hz2⟩
      simp only [e3,stAll]
      exact hK
    · rw [if_neg hc]
      simp only [Option.map_some,add_mk]
      exact go
theorem delete_r {nl : Nat} {i j : Int} {Q' : List X → Prop} {Q : Sl → Hp → Prop} (I : Inv h (ownS E a nl c l :: A)) (hz : ∀ h M, E.P h M z.cells.toList z0) (hb : bytes ≠ 0) (hbb : bytes ≤ 30000) (H : deleteP l i j Q')
    (k: ∀ r ra rc h',Inv h' (ownS E ra r.length rc r::A)→Q' r→Q ⟨ra,r.length,rc⟩ h'):
    slX ⟨a, nl, c⟩ i j (nl : Int) E.n fun _ => br (i == j) (Q ⟨a, nl, c⟩ h)
      (slW ⟨a,nl,c⟩ (0:Int) i E.n fun s2=>slW ⟨a,nl,c⟩ j (nl:Int) E.n fun s3=>apW T E.n bytes z h s2 s3 fun s4 h5=>
        slW s4 (s4.len:Int) (nl:Int) E.n fun s6=>clW z h5 s6 fun h7=>Q s4 h7):=by
  obtain rfl:=own_len I
  obtain ⟨⟨h0,h1,h2⟩,hB,HQ⟩:=H
  obtain ⟨F,M,_,T',vs,g1,g2⟩:=I.get
  have o2:l.length≤c:=g1.2.1
  refine ⟨⟨by omega,by simp only; omega⟩,⟨by omega,by omega⟩,⟨h0,h1⟩, ?_⟩
  by_cases e:i=j
  · subst e
    rw [beq_self_eq_true,br_true]
    rw [List.take_append_drop] at HQ
    exact k _ _ _ _ I HQ
  · rw [show (i == j) = false by simpa using e, br_false]
    have hz':z.cells.size=E.n:=by have:=E.len (hz h []); simpa using this
    refine sl_step (l:=l) ⟨by omega,h0,by omega⟩ o2 ?_
    refine sl_step (l:=l) ⟨by omega,by omega,by omega⟩ o2 ?_
    rw [sub_take,sub_drop]
    have e1:resl a c E.n (0:Int)=a:=by
      unfold resl
      split
      · rfl
      · cases a with
        | none=>rfl
        | some x=>simp; exact if_pos rfl
    obtain ⟨ii,rfl⟩:=Int.eq_ofNat_of_zero_le h0
    obtain ⟨jj,rfl⟩:=Int.eq_ofNat_of_zero_le (Int.le_trans h0 h1)
    rw [e1]
    simp only [Int.toNat_natCast,Int.toNat_zero,Nat.sub_zero] at HQ ⊢
    refine move_own I (by omega) (by omega) hz' hb hbb hB (fun e=>by subst e; exact own_none I) fun h5 _ tl htl I=> ?_
    have hlen:l.length=(l.take ii++l.drop jj++tl).length:=by simp [htl]; omega
    rw [hlen]
    exact clear_tail I hz fun h7 I=>k _ _ _ _ I HQ
end Go.Pu
