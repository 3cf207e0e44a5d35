import Derived.Test.YtkgbogibfogjgaaGreatDoorTiC
import Derived.Test.YtkgbogibfogjgaaGreatDoorTiE
import Derived.Test.YtkgbogibfogjgaaGreatDoorTiH
import Derived.Test.YtkgbogibfogjgaaGreatDoorTiJ
import Derived.Test.YtkgbogibfogjgaaGreatDoorTiM
import Derived.Test.YtkgbogibfogjgaaGreatDoorProg
set_option linter.unusedVariables false
set_option linter.unusedSimpArgs false
set_option maxHeartbeats 4000000
set_option maxRecDepth 100000
namespace Go.Ey
open Go Go.Wc
variable {P:Program} {ν:Nu} {S:SH} {F:Fr} {h:Hp}
def forceL:List Int->(List Int->Prop)->Prop
 | [],K=>K []
 | x::l,K=>match x with
  | .ofNat n=>match n with
   | 0=>forceL l fun l=>K (.ofNat 0::l)
   | m+1=>forceL l fun l=>K (.ofNat (m+1)::l)
  | .negSucc n=>forceL l fun l=>K (.negSucc n::l)
theorem jU: ∀ (l:List Int) (K:List Int->Prop),forceL l K->K l
 | [],K,H=>H
 | .ofNat 0::l,K,H=>jU l _ H
 | .ofNat (m+1)::l,K,H=>jU l _ H
 | .negSucc n::l,K,H=>jU l _ H
def bytesB (l:List Int):Bool:=l.all fun x=> !ltF x 0 && ltF x 256
theorem pe {l:List Int} (H:bytesB l=true):Pu.bytesL l:=fun x hx=>by have:=List.all_eq_true.1 H x hx;simp [sM] at this;omega
theorem sW (k:IntKind): ∀ l:List Int,VRL ν (l.map (SV.int k)) (l.map (Value.int k))
 | []=>rfl
 | x::l=>VRL.cons (by simp only [VR]) (sW k l)
noncomputable def textB (S:SH):SV->Option (List Int)
 | .sv nm off len cap=>bif Nat.ble len cap && Nat.ble len 1000000 then bytesAt S nm off len else none
 | .so nm off len sz _=>bif Nat.beq sz 1 && Nat.ble 1 len && Nat.ble len 1000000 then bytesAt S nm off len else none
 | .nilS=>some []
 | _=>none
theorem DG {nm off len:Nat} {b:List Int} (R:Rel ν S F h) (hb:bytesAt S nm off len=some b): ∃ x,ν nm=some x/\off+len<=x.2:=by
 unfold bytesAt at hb;split at hb
 ·rename_i T n op d c hg
  cases hq:Nat.ble (off+len) n with
  | false=>rw [hq] at hb; cases hb
  | true=> have hle:=Nat.le_of_ble_eq_true hq;obtain ⟨y,cs,z,hy,_,_,g2,_⟩:=R.blk hg;exact ⟨y,hy,by omega⟩
 ·cases hb
theorem Ia {s:SV} {v:Value} {b:List Int} (R:Rel ν S F h) (hb:textB S s=some b) (hv:VR ν s v): ∃ a c,v= .slice a b.length c/\Pu.SlE (Pu.rI .u8) h [] a c b/\b.length<=1000000:=by
 unfold textB at hb;split at hb
 ·rename_i nm off len cap
  cases hq:(Nat.ble len cap && Nat.ble len 1000000) with
  | false=>rw [hq] at hb; cases hb
  | true=> rw [hq] at hb;simp only [Bool.and_eq_true] at hq;have q3:=Nat.le_of_ble_eq_true hq.1;have q4:=Nat.le_of_ble_eq_true hq.2;simp only [VR] at hv;obtain ⟨p,hp,rfl⟩:=hv;obtain ⟨l1,l2⟩:=u5 R hb hp q3;exact ⟨_,_,by rw [l1],l2,by omega⟩
 ·rename_i nm off len sz bo
  cases hq:(Nat.beq sz 1 && Nat.ble 1 len && Nat.ble len 1000000) with
  | false=>rw [hq] at hb; cases hb
  | true=> rw [hq] at hb;simp only [Bool.and_eq_true] at hq;have q2:=Nat.eq_of_beq_eq_true hq.1.1;have q3:=Nat.le_of_ble_eq_true hq.1.2;have q4:=Nat.le_of_ble_eq_true hq.2;subst q2;simp only [VR] at hv;obtain ⟨p,hp,rfl⟩:=hv;obtain ⟨x,hx,hn⟩:=DG R hb;rw [hp] at hx; cases hx;obtain ⟨l1,l2⟩:=u5 (cap:=(p.2 - off) / 1) R hb hp (by rw [Nat.div_one]; omega);exact ⟨_,_,by rw [l1,if_pos (by omega)],l2,by omega⟩
 ·cases hb
  simp only [VR] at hv;exact ⟨_,_,hv,Pu.qd,by simp⟩
 ·cases hb
noncomputable def sumX (sm:List Int->List Int) (xs:List SV) (S:SH) (K:SV->SH->Prop):Prop:=match xs with
 | [.sv nm off 1 cap]=>match S.get nm with
  | some (.blk _ n _ d c)=>bif Nat.ble (off+1) n && Nat.ble 1 cap then (match textB S (cell d c off) with
   | some b=>bif bytesB b then forceL (sm b) fun l=>K (.agg (l.map (SV.int .u8))) S else False
   | none=>False) else False
  | _=>False
 | _=>False
theorem KG {sm:List Int->List Int} (hsm: ∀ b,sm b=Pt.sumL b) {ρ:Ids} {args:List Value} {Kr:Value->Hp->Prop} {xs:List SV} {K:SV->SH->Prop} (hv:VRL ν xs args) (R:Rel ν S F h) (H:sumX sm xs S K) (hk: ∀ v h',PV K ν S F v h'->Kr v h'):Tx.ic ρ args h Kr:=by
 unfold sumX at H;split at H
 ·rename_i nm off cap
  simp only [VRL,VR] at hv;obtain ⟨v,w,⟨p,hp,rfl⟩,rfl,rfl⟩:=hv;split at H
  ·rename_i T n op d c hg
   cases hq:(Nat.ble (off+1) n && Nat.ble 1 cap) with
   | false=>rw [hq] at H; exact H.elim
   | true=>
    rw [hq] at H;simp only [Bool.and_eq_true] at hq;have q1:=Nat.le_of_ble_eq_true hq.1;have q2:=Nat.le_of_ble_eq_true hq.2;simp only [cond_true] at H;split at H
    ·rename_i b hb
     cases hB:bytesB b with
     | false=>rw [hB] at H; exact H.elim
     | true=>
      rw [hB] at H;simp only [cond_true] at H;have H:=jU _ _ H;rw [hsm] at H;obtain ⟨y,cs,z,hy,hblk,g1,g2,g3,g4,g5⟩:=R.blk hg;rw [hp] at hy; cases hy;obtain ⟨u,k1,k2⟩:=g5 off (by omega);obtain ⟨a2,c2,rfl,l2,l3⟩:=Ia R hb k2
      have hS:Pu.SlE (Pu.rS (Pu.rI .u8)) h [] (some ⟨p.1,off,none⟩) cap [b]:=by
       refine ⟨[.slice a2 b.length c2],⟨by simp,fun _=>rfl,fun i hi=> ?_⟩,by simpa using q2,fun _ _ _=>by simp,[_],[],rfl,⟨_,_,rfl,l2⟩,rfl⟩;have:i=0:=by simpa using hi
       subst this;rw [dQ hblk]; simpa using k1
      refine Pt.uR (iK:=Pu.roS (Pu.rS (Pu.rI .u8)) (some ⟨p.1,off,none⟩) 1 cap [b]) (A:=[frz h]) (gq:=[b]) (Q':=fun r=>r.toList=Pt.sumL b) Pu.wT
       ⟨[[],[]],⟨⟨rfl,rfl,hS⟩,⟨rfl,Nat.le_refl _,fun b hb=>⟨by simp,rfl⟩⟩,trivial⟩,by simp⟩ (Pt.oF (by omega) (pe hB) fun r hr=>hr) fun r h' I hr=> ?_
      obtain ⟨Fs,hF,_⟩:=I
      match Fs,hF with
      | [F1,F2],hF=> refine hk _ _ (PV.pure R hF.2.1 H ?_);simp only [VR];refine ⟨(Pt.sumL b).map (Value.int .u8),sW _ _, ?_⟩;rw [hr];unfold lumpV;rw [kH (by rw [<- hr]; simp)]
    ·exact H.elim
  ·exact H.elim
 ·exact H.elim
def intsOf:List SV->Option (List Int)
 | []=>some []
 | .int .u8 x::l=>(intsOf l).map (x:: ·)
 | _=>none
theorem ia: ∀ {l:List SV} {k:List Int} {vs:List Value},intsOf l=some k->VRL ν l vs->vs=k.map (Value.int .u8)
 | [],k,vs,H,hv=>by simp only [intsOf,Option.some.injEq] at H; subst H; simp only [VRL] at hv; subst hv; rfl
 | s::l,k,vs,H,hv=>by
  simp only [VRL] at hv;obtain ⟨v,w,h1,h2,rfl⟩:=hv;unfold intsOf at H;split at H
  ·rename_i e; cases e
  ·rename_i x l' e
   cases e
   cases hg:intsOf l with
   | none=>rw [hg] at H; cases H
   | some r=> rw [hg] at H;simp only [Option.map_some,Option.some.injEq] at H;subst H;simp only [VR] at h1;rw [h1,ia hg h2]; rfl
  ·cases H
noncomputable def blockX (B:List Int->List Int->Int->List Int) (xs:List SV) (S:SH) (K:SV->SH->Prop):Prop:=match xs with
 | [.agg ks, .agg ns, .int .u32 c]=>match intsOf ks,intsOf ns with
  | some k,some n=>bif Nat.beq k.length 32 && Nat.beq n.length 12 && bytesB k && bytesB n then forceL (B k n c) fun l=>K (.agg (l.map (SV.int .u8))) S else False
  | _,_=>False
 | _=>False
theorem DH {B:List Int->List Int->Int->List Int} (hB: ∀ k n c,B k n c=Pt.blkS k n c) {args:List Value} {Kr:Value->Hp->Prop} {xs:List SV} {K:SV->SH->Prop} (hv:VRL ν xs args) (R:Rel ν S F h) (H:blockX B xs S K) (hk: ∀ v h',PV K ν S F v h'->Kr v h'):Tx.cZ Proofs.YtkgbogibfogjgaaGreatDoor.Ek.ρ args h Kr:=by
 unfold blockX at H;split at H
 ·rename_i ks ns c
  simp only [VRL,VR] at hv;obtain ⟨v1,w1,⟨u1,hu1,rfl⟩,⟨v2,w2,⟨u2,V1,rfl⟩,⟨v3,w3,rfl,rfl,rfl⟩,rfl⟩,rfl⟩:=hv;split at H
  ·rename_i k n hk1 hn1
   cases hq:(Nat.beq k.length 32 && Nat.beq n.length 12 && bytesB k && bytesB n) with
   | false=>rw [hq] at H; exact H.elim
   | true=>
    rw [hq] at H;simp only [Bool.and_eq_true,Nat.beq_eq] at hq;obtain ⟨⟨⟨l1,l2⟩,b1⟩,b2⟩:=hq;replace H:forceL (B k n c) (fun l=>K (.agg (l.map (SV.int .u8))) S):=H;replace H:=jU _ _ H;rw [hB] at H;generalize hgen:Pt.blkS k n c=R0 at H;have e1:=ia hk1 hu1;have e2:=ia hn1 V1;subst e1 e2
    obtain ⟨kv,hkv⟩: ∃ v:Vector Int 32,k=v.toList:=⟨⟨k.toArray,by simpa using l1⟩,by simp⟩
    obtain ⟨nv,hnv⟩: ∃ v:Vector Int 12,n=v.toList:=⟨⟨n.toArray,by simpa using l2⟩,by simp⟩
    subst hkv hnv;rw [<- Pu.dZ,<- Pu.dZ];unfold Tx.cZ;dsimp only [List.cons_append,List.nil_append,List.toList_toArray,tI,tN,tG,cnd,sameKind];refine Laws.rQ ?_;dsimp only [List.cons_append,List.nil_append,List.toList_toArray,tI,tN,tG,cnd,sameKind];refine Laws.rQ ?_;dsimp only [List.cons_append,List.nil_append,List.toList_toArray,tI,tN,tG,cnd,sameKind];refine Pt.lB (A:=[frz h]) (Q':=fun r=>r.toList=R0) (KF h) (Pt.pN (pe b1) (pe b2) fun r hr=>by rw [hr]; exact hgen) fun r h' I hr=> ?_;obtain ⟨Fs,hF,_⟩:=I
    match Fs,hF with
    | [F1],hF=> refine hk _ _ (PV.pure R hF.1 H ?_);simp only [VR];refine ⟨R0.map (Value.int .u8),sW _ _, ?_⟩;rw [hr];unfold lumpV;rw [kH (by rw [<- hr]; simp)]
  ·exact H.elim
 ·exact H.elim
end Go.Ey
theorem Go.Pu.Inv.keepAll {h h':Go.Wc.Hp} {A:List Go.Pu.At} (I:Go.Pu.Inv h A) (hs:h.size<=h'.size) (H: ∀ b,b<h.size->h'[b]? =h[b]?):Go.Pu.Inv h' A:=by obtain ⟨Fs,hf,hn⟩:=I;exact ⟨Fs,hf.mono ⟨⟨hs,fun b hb _=>H b hb⟩,fun b hb=> .inl hb⟩ (fun b hb=>H b (hf.lt b hb)),hn⟩
namespace Go.Ey
open Go Go.Wc
abbrev isTrue:SV->SH->Prop:=fun s _=>match s with
 | .bool true=>True
 | _=>False
theorem Ie {P:Program} {τ:Tys} {dF:Mth} {bk ft:FT} (hB:FOk P bk) {ext:CallF} (agree:Agree P τ) (Bm:MthOk P dF) (Ig:FOk P ft) (Pc:CallOk P ext) (mixed:P.follows .mixedOrders=true) {D:Ex.Tabs} {f lf dp:Nat}
  (H:callR τ dF bk lf ext ft dp f [] ⟨0, .e⟩ isTrue):SpecOk P f (Ex.specOf ({ps:=[],rs:=[.val .bool],bk:=[],sg:=false,P:=fun x σ Q=>Q (true,()) () σ}:Ex.Ctr D)):=by
 have C:=zv (lf:=lf) hB agree Bm Ig Pc mixed dp f [] ⟨0, .e⟩ isTrue H;refine ⟨C.1,fun args K w ⟨X,x,o,Q,I,HP,hQ⟩=> ?_⟩;replace I:=I.bV;obtain ⟨rfl,J⟩:=Ex.dsN I;refine (C.2 [] (fun v h'=>v= .bool true/\w.heap.size<=h'.size/\ ∀ b,b<w.heap.size->h'[b]? =w.heap[b]?) w ⟨fun _=>none,fun b=>w.heap[b]?,⟨0, .e⟩,[],isTrue,rfl, ?_,H, ?_⟩).mono ?_
 ·refine ⟨fun nm o v hg=>by simp [Tr.get] at hg,fun nm x hn=>by simp at hn,fun nm x hg=>by simp [Tr.get] at hg,fun nm nm' o v o' v' x x' hg=>by simp [Tr.get] at hg,fun b ob hb=>⟨hb,fun nm o v x hg=>by simp [Tr.get] at hg⟩⟩
 ·rintro v h' ⟨ν',s,S',hk,hvr,_,_,R'⟩
  have hb:v= .bool true:=by
   unfold isTrue at hk;split at hk
   ·simpa only [VR] using hvr
   ·exact hk.elim
  refine ⟨hb, ?_,fun b hb=> ?_⟩
  ·rcases Nat.eq_zero_or_pos w.heap.size with h0 | h0
   ·omega
   ·have:=(R'.fr (w.heap.size - 1) _ (Array.getElem?_eq_getElem (by omega))).1
    have:=(Array.getElem?_eq_some_iff.1 this).1;omega
  ·rw [(R'.fr b _ (Array.getElem?_eq_getElem hb)).1,Array.getElem?_eq_getElem hb]
 ·rintro e w' ⟨v,rfl,hs,rfl,hk1,EO⟩
  refine ⟨_,rfl,hs, ?_⟩;have J2:=J.keepAll hk1 EO;refine hQ (true,()) () o HP [.bool true] w'.heap ?_;have J3:Pu.Inv w'.heap (Ex.dsL D X [.val .bool] (true,()) [.bool true]::[X,Ex.sgA D o]):=Ex.mkC (Ex.mkV (D:=D) (X:=X) .bool true [.bool true] rfl (fun _ _=>rfl) (Ex.mkN J2));exact J3.rot.dV.rot
end Go.Ey
namespace Go.Proofs.YtkgbogibfogjgaaGreatDoor.TrA
open Go Go.Wc Go.Ey Go.Proofs.YtkgbogibfogjgaaGreatDoor
noncomputable def τ:Tys:=[
(3,⟨.int .i64,1,8,(.int .i64 (0:Int)),[.int .i64],true⟩),
(4,⟨.bool,1,1,(.bool false),[.bool],true⟩),
(5,⟨.int .u8,1,1,(.int .u8 (0:Int)),[.int .u8],true⟩),
(9,⟨.str,1,16,(.string (⟨#[]⟩:ByteArray)),[.str],true⟩),
(21,⟨.int .i32,1,4,(.int .i32 (0:Int)),[.int .i32],true⟩),
(22,⟨.arr 32 5,32,32,(.agg (lumpV .u8 32 (List.replicate 32 0)).toArray),[.lump .u8 32],true⟩),
(23,⟨.int .u32,1,4,(.int .u32 (0:Int)),[.int .u32],true⟩),
(24,⟨.slice 39,1,24,(.slice none 0 0),[.sl],true⟩),
(29,⟨.slice 41,1,24,(.slice none 0 0),[.sl],true⟩),
(31,⟨.struct [(3,0),(23,1),(22,2)],34,48,(.agg (([(.int .i64 (0:Int)),(.int .u32 (0:Int))]:List Value)++lumpV .u8 32 (List.replicate 32 0)).toArray),[.int .i64, .int .u32, .lump .u8 32],true⟩),
(32,⟨.int .i64,1,8,(.int .i64 (0:Int)),[.int .i64],true⟩),
(39,⟨.slice 5,1,24,(.slice none 0 0),[.sl],true⟩),
(41,⟨.struct [(3,0),(39,1)],2,32,(.agg [(.int .i64 (0:Int)),(.slice none 0 0)].toArray),[.int .i64, .sl],true⟩),
(45,⟨.ptr 106,1,8,(.pointer none),[.ptr],true⟩),
(46,⟨.slice 3,1,24,(.slice none 0 0),[.sl],true⟩),
(48,⟨.struct [(46,0)],1,24,(.agg [(.slice none 0 0)].toArray),[.sl],true⟩),
(56,⟨.slice 31,1,24,(.slice none 0 0),[.sl],true⟩),
(86,⟨.ptr 144,1,8,(.pointer none),[.ptr],true⟩),
(89,⟨.func,1,8,Value.nilFunc,[.any],true⟩),
(104,⟨.slice 116,1,24,(.slice none 0 0),[.sl],true⟩),
(106,⟨.struct [(39,0),(104,1),(24,2),(46,3)],4,96,(.agg [(.slice none 0 0),(.slice none 0 0),(.slice none 0 0),(.slice none 0 0)].toArray),[.sl, .sl, .sl, .sl],true⟩),
(116,⟨.struct [(3,0),(39,1)],2,32,(.agg [(.int .i64 (0:Int)),(.slice none 0 0)].toArray),[.int .i64, .sl],true⟩),
(136,⟨.arr 12 5,12,12,(.agg (lumpV .u8 12 (List.replicate 12 0)).toArray),[.lump .u8 12],true⟩),
(138,⟨.int .u64,1,8,(.int .u64 (0:Int)),[.int .u64],true⟩),
(144,⟨.struct [(24,0)],1,24,(.agg [(.slice none 0 0)].toArray),[.sl],true⟩),
(147,⟨.slice 23,1,24,(.slice none 0 0),[.sl],true⟩),
(152,⟨.ptr 175,1,8,(.pointer none),[.ptr],true⟩),
(161,⟨.arr 64 5,64,64,(.agg (lumpV .u8 64 (List.replicate 64 0)).toArray),[.lump .u8 64],true⟩),
(163,⟨.arr 8 23,8,32,(.agg (lumpV .u32 8 (List.replicate 8 0)).toArray),[.lump .u32 8],true⟩),
(165,⟨.struct [(163,0),(39,8),(138,9)],10,64,(.agg (lumpV .u32 8 (List.replicate 8 0)++([(.slice none 0 0),(.int .u64 (0:Int))]:List Value)).toArray),[.lump .u32 8, .sl, .int .u64],true⟩),
(169,⟨.int .u64,1,8,(.int .u64 (0:Int)),[.int .u64],true⟩),
(175,⟨.struct [(39,0),(32,1)],2,32,(.agg [(.slice none 0 0),(.int .i64 (0:Int))].toArray),[.sl, .int .i64],true⟩),
(177,⟨.arr 16 23,16,64,(.agg (lumpV .u32 16 (List.replicate 16 0)).toArray),[.lump .u32 16],true⟩),
(179,⟨.arr 4 23,4,16,(.agg (lumpV .u32 4 (List.replicate 4 0)).toArray),[.lump .u32 4],true⟩),
(190,⟨.arr 64 23,64,256,(.agg (lumpV .u32 64 (List.replicate 64 0)).toArray),[.lump .u32 64],true⟩),
(195,⟨.arr 256 4,256,256,(.agg (List.replicate 256 (.bool false)).toArray),(List.replicate 256 .bool),true⟩),
(199,⟨.ptr 195,1,8,(.pointer none),[.ptr],true⟩),
(204,⟨.arr 256 5,256,256,(.agg (lumpV .u8 256 (List.replicate 256 0)).toArray),[.lump .u8 256],true⟩),
(206,⟨.struct [(5,0),(5,1)],2,2,(.agg [(.int .u8 (0:Int)),(.int .u8 (0:Int))].toArray),[.int .u8, .int .u8],true⟩),
(207,⟨.arr 16 206,32,32,(.agg [(.int .u8 (0:Int)),(.int .u8 (0:Int)),(.int .u8 (0:Int)),(.int .u8 (0:Int)),(.int .u8 (0:Int)),(.int .u8 (0:Int)),(.int .u8 (0:Int)),(.int .u8 (0:Int)),(.int .u8 (0:Int)),(.int .u8 (0:Int)),(.int .u8 (0:Int)),(.int .u8 (0:Int)),(.int .u8 (0:Int)),(.int .u8 (0:Int)),(.int .u8 (0:Int)),(.int .u8 (0:Int)),(.int .u8 (0:Int)),(.int .u8 (0:Int)),(.int .u8 (0:Int)),(.int .u8 (0:Int)),(.int .u8 (0:Int)),(.int .u8 (0:Int)),(.int .u8 (0:Int)),(.int .u8 (0:Int)),(.int .u8 (0:Int)),(.int .u8 (0:Int)),(.int .u8 (0:Int)),(.int .u8 (0:Int)),(.int .u8 (0:Int)),(.int .u8 (0:Int)),(.int .u8 (0:Int)),(.int .u8 (0:Int))].toArray),[.int .u8, .int .u8, .int .u8, .int .u8, .int .u8, .int .u8, .int .u8, .int .u8, .int .u8, .int .u8, .int .u8, .int .u8, .int .u8, .int .u8, .int .u8, .int .u8, .int .u8, .int .u8, .int .u8, .int .u8, .int .u8, .int .u8, .int .u8, .int .u8, .int .u8, .int .u8, .int .u8, .int .u8, .int .u8, .int .u8, .int .u8, .int .u8],true⟩)]
theorem agree:Agree Tryz.prog τ:=qy _ _ (by kernel_rfl) (by kernel_rfl)
theorem mixed:Tryz.prog.follows .mixedOrders=true:=by kernel_rfl
noncomputable def ft:FT:=[(7,Tryz.f7),(8,Tryz.f8),(9,Tryz.f9),(12,Tryz.f12),(16,Tryz.f16),(17,Tryz.f17),(19,Tryz.f19),(22,Tryz.f22),(23,Tryz.f23),(26,Tryz.f26),(29,Tryz.f29),(30,Tryz.f30),(31,Tryz.f31),(32,Tryz.f32),(33,Tryz.f33),(34,Tryz.f34),(35,Tryz.f35),(36,Tryz.f36),(37,Tryz.f37),(42,Tryz.f42),(43,Tryz.f43),(44,Tryz.f44),(45,Tryz.f45),(47,Tryz.f47),(48,Tryz.f48),(50,Tryz.f50),(52,Tryz.f52),(53,Tryz.f53),(54,Tryz.f54),(55,Tryz.f55),(56,Tryz.f56),(59,Tryz.f59),(60,Tryz.f60),(61,Tryz.f61),(62,Tryz.f62),(63,Tryz.f63),(64,Tryz.f64),(65,Tryz.f65),(66,Tryz.f66),(71,Tryz.f71),(72,Tryz.f72),(73,Tryz.f73),(74,Tryz.f74),(77,Tryz.f77),(79,Tryz.f79),(80,Tryz.f80),(81,Tryz.f81),(82,Tryz.f82),(83,Tryz.f83),(85,Tryz.f85),(90,Tryz.f90),(91,Tryz.f91),(92,Tryz.f92),(93,Tryz.f93),(94,Tryz.f94),(97,Tryz.f97),(98,Tryz.f98),(99,Tryz.f99),(100,Tryz.f100),(106,Tryz.f106),(107,Tryz.f107),(108,Tryz.f108),(109,Tryz.f109),(110,Tryz.f110),(111,Tryz.f111),(112,Tryz.f112),(113,Tryz.f113),(118,Tryz.f118),(119,Tryz.f119),(120,Tryz.f120),(121,Tryz.f121),(122,Tryz.f122),(123,Tryz.f123),(124,Tryz.f124),(126,Tryz.f126),(127,Tryz.f127),(128,Tryz.f128),(129,Tryz.f129),(130,Tryz.f130),(131,Tryz.f131),(132,Tryz.f132),(133,Tryz.f133),(134,Tryz.f134),(135,Tryz.f135),(136,Tryz.f136),(137,Tryz.f137),(138,Tryz.f138),(139,Tryz.f139)]
theorem Ig:FOk Tryz.prog ft:=
 aD Tryz.func7 (by kernel_rfl) <|
 aD Tryz.func8 (by kernel_rfl) <|
 aD Tryz.func9 (by kernel_rfl) <|
 aD Tryz.func12 (by kernel_rfl) <|
 aD Tryz.func16 (by kernel_rfl) <|
 aD Tryz.func17 (by kernel_rfl) <|
 aD Tryz.func19 (by kernel_rfl) <|
 aD Tryz.func22 (by kernel_rfl) <|
 aD Tryz.func23 (by kernel_rfl) <|
 aD Tryz.func26 (by kernel_rfl) <|
 aD Tryz.func29 (by kernel_rfl) <|
 aD Tryz.func30 (by kernel_rfl) <|
 aD Tryz.func31 (by kernel_rfl) <|
 aD Tryz.func32 (by kernel_rfl) <|
 aD Tryz.func33 (by kernel_rfl) <|
 aD Tryz.func34 (by kernel_rfl) <|
 aD Tryz.func35 (by kernel_rfl) <|
 aD Tryz.func36 (by kernel_rfl) <|
 aD Tryz.func37 (by kernel_rfl) <|
 aD Tryz.func42 (by kernel_rfl) <|
 aD Tryz.func43 (by kernel_rfl) <|
 aD Tryz.func44 (by kernel_rfl) <|
 aD Tryz.func45 (by kernel_rfl) <|
 aD Tryz.func47 (by kernel_rfl) <|
 aD Tryz.func48 (by kernel_rfl) <|
 aD Tryz.func50 (by kernel_rfl) <|
 aD Tryz.func52 (by kernel_rfl) <|
 aD Tryz.func53 (by kernel_rfl) <|
 aD Tryz.func54 (by kernel_rfl) <|
 aD Tryz.func55 (by kernel_rfl) <|
 aD Tryz.func56 (by kernel_rfl) <|
 aD Tryz.func59 (by kernel_rfl) <|
 aD Tryz.func60 (by kernel_rfl) <|
 aD Tryz.func61 (by kernel_rfl) <|
 aD Tryz.func62 (by kernel_rfl) <|
 aD Tryz.func63 (by kernel_rfl) <|
 aD Tryz.func64 (by kernel_rfl) <|
 aD Tryz.func65 (by kernel_rfl) <|
 aD Tryz.func66 (by kernel_rfl) <|
 aD Tryz.func71 (by kernel_rfl) <|
 aD Tryz.func72 (by kernel_rfl) <|
 aD Tryz.func73 (by kernel_rfl) <|
 aD Tryz.func74 (by kernel_rfl) <|
 aD Tryz.func77 (by kernel_rfl) <|
 aD Tryz.func79 (by kernel_rfl) <|
 aD Tryz.func80 (by kernel_rfl) <|
 aD Tryz.func81 (by kernel_rfl) <|
 aD Tryz.func82 (by kernel_rfl) <|
 aD Tryz.func83 (by kernel_rfl) <|
 aD Tryz.func85 (by kernel_rfl) <|
 aD Tryz.func90 (by kernel_rfl) <|
 aD Tryz.func91 (by kernel_rfl) <|
 aD Tryz.func92 (by kernel_rfl) <|
 aD Tryz.func93 (by kernel_rfl) <|
 aD Tryz.func94 (by kernel_rfl) <|
 aD Tryz.func97 (by kernel_rfl) <|
 aD Tryz.func98 (by kernel_rfl) <|
 aD Tryz.func99 (by kernel_rfl) <|
 aD Tryz.func100 (by kernel_rfl) <|
 aD Tryz.func106 (by kernel_rfl) <|
 aD Tryz.func107 (by kernel_rfl) <|
 aD Tryz.func108 (by kernel_rfl) <|
 aD Tryz.func109 (by kernel_rfl) <|
 aD Tryz.func110 (by kernel_rfl) <|
 aD Tryz.func111 (by kernel_rfl) <|
 aD Tryz.func112 (by kernel_rfl) <|
 aD Tryz.func113 (by kernel_rfl) <|
 aD Tryz.func118 (by kernel_rfl) <|
 aD Tryz.func119 (by kernel_rfl) <|
 aD Tryz.func120 (by kernel_rfl) <|
 aD Tryz.func121 (by kernel_rfl) <|
 aD Tryz.func122 (by kernel_rfl) <|
 aD Tryz.func123 (by kernel_rfl) <|
 aD Tryz.func124 (by kernel_rfl) <|
 aD Tryz.func126 (by kernel_rfl) <|
 aD Tryz.func127 (by kernel_rfl) <|
 aD Tryz.func128 (by kernel_rfl) <|
 aD Tryz.func129 (by kernel_rfl) <|
 aD Tryz.func130 (by kernel_rfl) <|
 aD Tryz.func131 (by kernel_rfl) <|
 aD Tryz.func132 (by kernel_rfl) <|
 aD Tryz.func133 (by kernel_rfl) <|
 aD Tryz.func134 (by kernel_rfl) <|
 aD Tryz.func135 (by kernel_rfl) <|
 aD Tryz.func136 (by kernel_rfl) <|
 aD Tryz.func137 (by kernel_rfl) <|
 aD Tryz.func138 (by kernel_rfl) <|
 aD Tryz.func139 (by kernel_rfl) <| Cs
noncomputable def dF:Mth:=[]
theorem Bm:MthOk Tryz.prog dF:=HT (by kernel_rfl)
end Go.Proofs.YtkgbogibfogjgaaGreatDoor.TrA
