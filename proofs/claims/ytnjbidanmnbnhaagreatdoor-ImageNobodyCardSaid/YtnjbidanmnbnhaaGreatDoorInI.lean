import Derived.Test.YtnjbidanmnbnhaaGreatDoorInC
import Derived.Test.YtnjbidanmnbnhaaGreatDoorInE
import Derived.Test.YtnjbidanmnbnhaaGreatDoorInF
import Derived.Test.YtnjbidanmnbnhaaGreatDoorInH
import Derived.Test.YtnjbidanmnbnhaaGreatDoorProg
import Derived.Below
import Derived.WalkKit
set_option linter.unusedVariables false
set_option linter.unusedSimpArgs false
set_option maxHeartbeats 4000000
set_option maxRecDepth 100000
namespace Go.Ey
open Go Go.Wc
variable {P:Program} {ν:Nu} {S:SH} {F:Fr} {h:Hp}
def forceL : List Int → (List Int → Prop) → Prop
  | [],K=>K []
  | x :: l, K => match x with
    | .ofNat n => match n with
      | 0=>forceL l fun l=>K (.ofNat 0::l)
      | m+1=>forceL l fun l=>K (.ofNat (m+1)::l)
    | .negSucc n=>forceL l fun l=>K (.negSucc n::l)
theorem forceL_eq: ∀ (l:List Int) (K:List Int→Prop),forceL l K→K l
  | [],K,H=>H
  | .ofNat 0::l,K,H=>forceL_eq l _ H
  | .ofNat (m+1)::l,K,H=>forceL_eq l _ H
  | .negSucc n::l,K,H=>forceL_eq l _ H
def bytesB (l:List Int):Bool:=l.all fun x=> !ltF x 0 && ltF x 256
theorem bytesB_ok {l:List Int} (H:bytesB l=true):Pu.bytesL l:=fun x hx=>by
  have:=List.all_eq_true.1 H x hx
  simp [ltF_eq] at this
  omega
theorem vrl_ints (k:IntKind): ∀ l:List Int,VRL ν (l.map (SV.int k)) (l.map (Value.int k))
  | []=>rfl
  | x::l=>VRL.cons (by simp only [VR]) (vrl_ints k l)
noncomputable def textB (S:SH):SV→Option (List Int)
  | .sv nm off len cap=>bif Nat.ble len cap && Nat.ble len 1000000 then bytesAt S nm off len else none
  | .so nm off len sz _=>bif Nat.beq sz 1 && Nat.ble 1 len && Nat.ble len 1000000 then bytesAt S nm off len else none
  | .nilS=>some []
  | _=>none
theorem bytesAt_n {nm off len:Nat} {b:List Int} (R:Rel ν S F h) (hb:bytesAt S nm off len=some b): ∃ x,ν nm=some x∧off+len≤x.2:=by
  unfold bytesAt at hb
  split at hb
  · rename_i T n op d c hg
    cases hq:Nat.ble (off+len) n with
    | false=>rw [hq] at hb; cases hb
    | true =>
      have hle:=Nat.le_of_ble_eq_true hq
      obtain ⟨y,cs,z,hy,_,_,g2,_⟩:=R.blk hg
      exact ⟨y,hy,by omega⟩
  · cases hb
theorem textB_ok {s:SV} {v:Value} {b:List Int} (R:Rel ν S F h) (hb:textB S s=some b) (hv:VR ν s v): ∃ a c,v= .slice a b.length c∧Pu.SlE (Pu.rI .u8) h [] a c b∧b.length≤1000000:=by
  unfold textB at hb
  split at hb
  · rename_i nm off len cap
    cases hq:(Nat.ble len cap && Nat.ble len 1000000) with
    | false=>rw [hq] at hb; cases hb
    | true =>
      rw [hq] at hb
      simp only [Bool.and_eq_true] at hq
      have q3:=Nat.le_of_ble_eq_true hq.1
      have q4:=Nat.le_of_ble_eq_true hq.2
      simp only [VR] at hv
      obtain ⟨p,hp,rfl⟩:=hv
      obtain ⟨l1,l2⟩:=sle_bytes R hb hp q3
      exact ⟨_,_,by rw [l1],l2,by omega⟩
  · rename_i nm off len sz bo
    cases hq:(Nat.beq sz 1 && Nat.ble 1 len && Nat.ble len 1000000) with
    | false=>rw [hq] at hb; cases hb
    | true =>
      rw [hq] at hb
      simp only [Bool.and_eq_true] at hq
      have q2:=Nat.eq_of_beq_eq_true hq.1.1
      have q3:=Nat.le_of_ble_eq_true hq.1.2
      have q4:=Nat.le_of_ble_eq_true hq.2
      subst q2
      simp only [VR] at hv
      obtain ⟨p,hp,rfl⟩:=hv
      obtain ⟨x,hx,hn⟩:=bytesAt_n R hb
      rw [hp] at hx; cases hx
      obtain ⟨l1,l2⟩:=sle_bytes (cap:=(p.2 - off) / 1) R hb hp (by rw [Nat.div_one]; omega)
      exact ⟨_,_,by rw [l1,if_pos (by omega)],l2,by omega⟩
  · cases hb
    simp only [VR] at hv
    exact ⟨_,_,hv,Pu.sle_nil,by simp⟩
  · cases hb
noncomputable def sumX (sm:List Int→List Int) (xs:List SV) (S:SH) (K:SV→SH→Prop):Prop:=match xs with
  | [.sv nm off 1 cap] => match S.get nm with
    | some (.blk _ n _ d c) => bif Nat.ble (off + 1) n && Nat.ble 1 cap then (match textB S (cell d c off) with
      | some b=>bif bytesB b then forceL (sm b) fun l=>K (.agg (l.map (SV.int .u8))) S else False
      | none=>False) else False
    | _=>False
  | _=>False
theorem sumX_ok {sm : List Int → List Int} (hsm : ∀ b, sm b = Pt.sumL b) {ρ : Ids} {args : List Value} {Kr : Value → Hp → Prop} {xs : List SV} {K : SV → SH → Prop} (hv : VRL ν xs args) (R : Rel ν S F h) (H : sumX sm xs S K) (hk : ∀ v h', PV K ν S F v h' → Kr v h') : Tx.sha_Sum_S ρ args h Kr := by
  unfold sumX at H
  split at H
  · rename_i nm off cap
    simp only [VRL,VR] at hv
    obtain ⟨v,w,⟨p,hp,rfl⟩,rfl,rfl⟩:=hv
    split at H
    · rename_i T n op d c hg
      cases hq:(Nat.ble (off+1) n && Nat.ble 1 cap) with
      | false=>rw [hq] at H; exact H.elim
      | true =>
        rw [hq] at H
        simp only [Bool.and_eq_true] at hq
        have q1:=Nat.le_of_ble_eq_true hq.1
        have q2:=Nat.le_of_ble_eq_true hq.2
        simp only [cond_true] at H
        split at H
        · rename_i b hb
          cases hB:bytesB b with
          | false=>rw [hB] at H; exact H.elim
          | true =>
            rw [hB] at H
            simp only [cond_true] at H
            have H:=forceL_eq _ _ H
            rw [hsm] at H
            obtain ⟨y,cs,z,hy,hblk,g1,g2,g3,g4,g5⟩:=R.blk hg
            rw [hp] at hy; cases hy
            obtain ⟨u,k1,k2⟩:=g5 off (by omega)
            obtain ⟨a2,c2,rfl,l2,l3⟩:=textB_ok R hb k2
            have hS:Pu.SlE (Pu.rS (Pu.rI .u8)) h [] (some ⟨p.1,off,none⟩) cap [b]:=by
              refine ⟨[.slice a2 b.length c2],⟨by simp,fun _=>rfl,fun i hi=> ?_⟩,by simpa using q2,fun _ _ _=>by simp,[_],[],rfl,⟨_,_,rfl,l2⟩,rfl⟩
              have:i=0:=by simpa using hi
              subst this
              rw [hcell_of hblk]; simpa using k1
            refine Pt.sha_Sum_r (X_parts0:=Pu.roS (Pu.rS (Pu.rI .u8)) (some ⟨p.1,off,none⟩) 1 cap [b]) (A:=[frz h]) (parts0:=[b]) (Q':=fun r=>r.toList=Pt.sumL b) Pu.rd_ro
              ⟨[[],[]],⟨⟨rfl,rfl,hS⟩,⟨rfl,Nat.le_refl _,fun b hb=>⟨by simp,rfl⟩⟩,trivial⟩,by simp⟩ (Pt.ssum_spec (by omega) (bytesB_ok hB) fun r hr=>hr) fun r h' I hr=> ?_
            obtain ⟨Fs,hF,_⟩:=I
            match Fs,hF with
            | [F1, F2], hF =>
              refine hk _ _ (PV.pure R hF.2.1 H ?_)
              simp only [VR]
              refine ⟨(Pt.sumL b).map (Value.int .u8),vrl_ints _ _, ?_⟩
              rw [hr]
              unfold lumpV
              rw [nrm_eq (by rw [← hr]; simp)]
        · exact H.elim
    · exact H.elim
  · exact H.elim
end Go.Ey
namespace Go.Ey
open Go Go.Wc
variable {P:Program} {ν:Nu} {S:SH} {F:Fr} {h:Hp}
def intsOf:List SV→Option (List Int)
  | []=>some []
  | .int .u8 x::l=>(intsOf l).map (x:: ·)
  | _=>none
theorem intsOf_ok : ∀ {l : List SV} {k : List Int} {vs : List Value}, intsOf l = some k → VRL ν l vs → vs = k.map (Value.int .u8)
  | [],k,vs,H,hv=>by simp only [intsOf,Option.some.injEq] at H; subst H; simp only [VRL] at hv; subst hv; rfl
  | s :: l, k, vs, H, hv => by
    simp only [VRL] at hv
    obtain ⟨v,w,h1,h2,rfl⟩:=hv
    unfold intsOf at H
    split at H
    · rename_i e; cases e
    · rename_i x l' e
      cases e
      cases hg:intsOf l with
      | none=>rw [hg] at H; cases H
      | some r =>
        rw [hg] at H
        simp only [Option.map_some,Option.some.injEq] at H
        subst H
        simp only [VR] at h1
        rw [h1,intsOf_ok hg h2]; rfl
    · cases H
theorem takeI_map (kd:IntKind): ∀ (k:List Int) (f:List Int→LP) (n:Nat),k.length=n→f k []→takeI kd n (k.map (Value.int kd)) f
  | [],f,n,h,H=>by subst h; exact H
  | x :: k, f, n, h, H => by
    subst h
    simp only [List.length_cons,List.map_cons,takeI]
    rw [show sameKind kd kd=true from by cases kd <;> rfl]
    exact takeI_map kd k _ _ rfl H
noncomputable def blockX (B:List Int→List Int→Int→List Int) (xs:List SV) (S:SH) (K:SV→SH→Prop):Prop:=match xs with
  | [.agg ks, .agg ns, .int .u32 c] => match intsOf ks, intsOf ns with
    | some k,some n=>bif Nat.beq k.length 32 && Nat.beq n.length 12 && bytesB k && bytesB n then forceL (B k n c) fun l=>K (.agg (l.map (SV.int .u8))) S else False
    | _,_=>False
  | _=>False
theorem blockX_ok {B : List Int → List Int → Int → List Int} (hB : ∀ k n c, B k n c = Pt.blkS k n c) {ρ : Ids} {args : List Value} {Kr : Value → Hp → Prop} {xs : List SV} {K : SV → SH → Prop} (hv : VRL ν xs args) (R : Rel ν S F h) (H : blockX B xs S K) (hk : ∀ v h', PV K ν S F v h' → Kr v h') : Tx.cipher_Block_S ρ args h Kr := by
  unfold blockX at H
  split at H
  · rename_i ks ns c
    simp only [VRL,VR] at hv
    obtain ⟨v1,w1,⟨u1,hu1,rfl⟩,⟨v2,w2,⟨u2,hu2,rfl⟩,⟨v3,w3,rfl,rfl,rfl⟩,rfl⟩,rfl⟩:=hv
    split at H
    · rename_i k n hk1 hn1
      cases hq:(Nat.beq k.length 32 && Nat.beq n.length 12 && bytesB k && bytesB n) with
      | false=>rw [hq] at H; exact H.elim
      | true =>
        rw [hq] at H
        simp only [Bool.and_eq_true,Nat.beq_eq] at hq
        obtain ⟨⟨⟨l1,l2⟩,b1⟩,b2⟩:=hq
        replace H:forceL (B k n c) (fun l=>K (.agg (l.map (SV.int .u8))) S):=H
        replace H:=forceL_eq _ _ H
        rw [hB] at H
        generalize hgen:Pt.blkS k n c=R0 at H
        have e1:=intsOf_ok hk1 hu1
        have e2:=intsOf_ok hn1 hu2
        subst e1 e2
        obtain ⟨kv,hkv⟩: ∃ v:Vector Int 32,k=v.toList:=⟨⟨k.toArray,by simpa using l1⟩,by simp⟩
        obtain ⟨nv,hnv⟩: ∃ v:Vector Int 12,n=v.toList:=⟨⟨n.toArray,by simpa using l2⟩,by simp⟩
        subst hkv hnv
        rw [← Pu.lumpV_v,← Pu.lumpV_v]
        unfold Tx.cipher_Block_S
        dsimp only [List.cons_append,List.nil_append,List.toList_toArray,tI,tN,tG,cnd,sameKind]
        refine Laws.tL_in0 ?_
        dsimp only [List.cons_append,List.nil_append,List.toList_toArray,tI,tN,tG,cnd,sameKind]
        refine Laws.tL_in0 ?_
        dsimp only [List.cons_append,List.nil_append,List.toList_toArray,tI,tN,tG,cnd,sameKind]
        refine Pt.cipher_Block_r (A:=[frz h]) (Q':=fun r=>r.toList=R0) (inv_frz h) (Pt.cblock_spec (bytesB_ok b1) (bytesB_ok b2) fun r hr=>by rw [hr]; exact hgen) fun r h' I hr=> ?_
        obtain ⟨Fs,hF,_⟩:=I
        match Fs,hF with
        | [F1], hF =>
          refine hk _ _ (PV.pure R hF.1 H ?_)
          simp only [VR]
          refine ⟨R0.map (Value.int .u8),vrl_ints _ _, ?_⟩
          rw [hr]
          unfold lumpV
          rw [nrm_eq (by rw [← hr]; simp)]
    · exact H.elim
  · exact H.elim
end Go.Ey
namespace Go.Proofs.YtnjbidanmnbnhaaGreatDoor.ImgT
open Go Go.Wc Go.Ey Go.Proofs.YtnjbidanmnbnhaaGreatDoor
noncomputable def τ:Tys:=[
(3,⟨.int .i64,1,8,(.int .i64 (0:Int)),[.int .i64],true⟩),
(4,⟨.bool,1,1,(.bool false),[.bool],true⟩),
(5,⟨.int .u8,1,1,(.int .u8 (0:Int)),[.int .u8],true⟩),
(9,⟨.str,1,16,(.string (⟨#[]⟩:ByteArray)),[.str],true⟩),
(21,⟨.int .i32,1,4,(.int .i32 (0:Int)),[.int .i32],true⟩),
(22,⟨.arr 3 3,3,24,(.agg (lumpV .i64 3 (List.replicate 3 0)).toArray),[.lump .i64 3],true⟩),
(23,⟨.ptr 28,1,8,(.pointer none),[.ptr],true⟩),
(25,⟨.iface,1,16,Value.nilIface,[.any],true⟩),
(26,⟨.ptr 79,1,8,(.pointer none),[.ptr],true⟩),
(28,⟨.struct [(3,0),(25,1),(26,2)],3,32,(.agg [(.int .i64 (0:Int)),Value.nilIface,(.pointer none)].toArray),[.int .i64, .any, .ptr],false⟩),
(29,⟨.slice 23,1,24,(.slice none 0 0),[.sl],true⟩),
(30,⟨.slice 5,1,24,(.slice none 0 0),[.sl],true⟩),
(31,⟨.int .i64,1,8,(.int .i64 (0:Int)),[.int .i64],true⟩),
(34,⟨.slice 90,1,24,(.slice none 0 0),[.sl],true⟩),
(35,⟨.int .u32,1,4,(.int .u32 (0:Int)),[.int .u32],true⟩),
(36,⟨.arr 32 5,32,32,(.agg (lumpV .u8 32 (List.replicate 32 0)).toArray),[.lump .u8 32],true⟩),
(38,⟨.struct [(3,0),(35,1),(36,2)],34,48,(.agg (([(.int .i64 (0:Int)),(.int .u32 (0:Int))]:List Value)++lumpV .u8 32 (List.replicate 32 0)).toArray),[.int .i64, .int .u32, .lump .u8 32],true⟩),
(41,⟨.slice 30,1,24,(.slice none 0 0),[.sl],true⟩),
(44,⟨.slice 3,1,24,(.slice none 0 0),[.sl],true⟩),
(51,⟨.ptr 82,1,8,(.pointer none),[.ptr],true⟩),
(53,⟨.struct [(44,0)],1,24,(.agg [(.slice none 0 0)].toArray),[.sl],true⟩),
(59,⟨.struct [(3,0),(3,1),(3,2)],3,24,(.agg [(.int .i64 (0:Int)),(.int .i64 (0:Int)),(.int .i64 (0:Int))].toArray),[.int .i64, .int .i64, .int .i64],true⟩),
(68,⟨.ptr 127,1,8,(.pointer none),[.ptr],true⟩),
(69,⟨.ptr 102,1,8,(.pointer none),[.ptr],true⟩),
(75,⟨.ptr 121,1,8,(.pointer none),[.ptr],true⟩),
(76,⟨.map 3 30,1,8,(.map none),[.map],true⟩),
(77,⟨.ptr 204,1,8,(.pointer none),[.ptr],true⟩),
(79,⟨.struct [(68,0),(51,1),(36,2),(53,34),(38,35),(75,69),(3,70),(76,71),(77,72),(4,73)],74,160,(.agg (([(.pointer none),(.pointer none)]:List Value)++lumpV .u8 32 (List.replicate 32 0)++([(.slice none 0 0),(.int .i64 (0:Int)),(.int .u32 (0:Int))]:List Value)++lumpV .u8 32 (List.replicate 32 0)++([(.pointer none),(.int .i64 (0:Int)),(.map none),(.pointer none),(.bool false)]:List Value)).toArray),[.ptr, .ptr, .lump .u8 32, .sl, .int .i64, .int .u32, .lump .u8 32, .ptr, .int .i64, .map, .ptr, .bool],true⟩),
(80,⟨.slice 95,1,24,(.slice none 0 0),[.sl],true⟩),
(82,⟨.struct [(30,0),(80,1),(41,2),(44,3)],4,96,(.agg [(.slice none 0 0),(.slice none 0 0),(.slice none 0 0),(.slice none 0 0)].toArray),[.sl, .sl, .sl, .sl],true⟩),
(83,⟨.func,1,8,Value.nilFunc,[.any],true⟩),
(85,⟨.slice 38,1,24,(.slice none 0 0),[.sl],true⟩),
(90,⟨.struct [(3,0),(30,1)],2,32,(.agg [(.int .i64 (0:Int)),(.slice none 0 0)].toArray),[.int .i64, .sl],true⟩),
(95,⟨.struct [(3,0),(30,1)],2,32,(.agg [(.int .i64 (0:Int)),(.slice none 0 0)].toArray),[.int .i64, .sl],true⟩),
(100,⟨.ptr 274,1,8,(.pointer none),[.ptr],true⟩),
(102,⟨.struct [(68,0),(36,1),(53,33),(85,34),(41,35),(76,36),(100,37)],38,128,(.agg (([(.pointer none)]:List Value)++lumpV .u8 32 (List.replicate 32 0)++([(.slice none 0 0),(.slice none 0 0),(.slice none 0 0),(.map none),(.pointer none)]:List Value)).toArray),[.ptr, .lump .u8 32, .sl, .sl, .sl, .map, .ptr],true⟩),
(105,⟨.ptr 107,1,8,(.pointer none),[.ptr],true⟩),
(107,⟨.struct [(41,0)],1,24,(.agg [(.slice none 0 0)].toArray),[.sl],true⟩),
(111,⟨.func,1,8,Value.nilFunc,[.any],true⟩),
(119,⟨.map 3 222,1,8,(.map none),[.map],true⟩),
(121,⟨.struct [(3,0),(119,1),(44,2)],3,40,(.agg [(.int .i64 (0:Int)),(.map none),(.slice none 0 0)].toArray),[.int .i64, .map, .sl],true⟩),
(123,⟨.arr 12 5,12,12,(.agg (lumpV .u8 12 (List.replicate 12 0)).toArray),[.lump .u8 12],true⟩),
(125,⟨.int .u64,1,8,(.int .u64 (0:Int)),[.int .u64],true⟩),
(127,⟨.struct [(41,0)],1,24,(.agg [(.slice none 0 0)].toArray),[.sl],true⟩),
(132,⟨.arr 64 5,64,64,(.agg (lumpV .u8 64 (List.replicate 64 0)).toArray),[.lump .u8 64],true⟩),
(134,⟨.arr 8 35,8,32,(.agg (lumpV .u32 8 (List.replicate 8 0)).toArray),[.lump .u32 8],true⟩),
(136,⟨.struct [(134,0),(30,8),(125,9)],10,64,(.agg (lumpV .u32 8 (List.replicate 8 0)++([(.slice none 0 0),(.int .u64 (0:Int))]:List Value)).toArray),[.lump .u32 8, .sl, .int .u64],true⟩),
(140,⟨.int .u64,1,8,(.int .u64 (0:Int)),[.int .u64],true⟩),
(145,⟨.arr 16 35,16,64,(.agg (lumpV .u32 16 (List.replicate 16 0)).toArray),[.lump .u32 16],true⟩),
(147,⟨.arr 4 35,4,16,(.agg (lumpV .u32 4 (List.replicate 4 0)).toArray),[.lump .u32 4],true⟩),
(153,⟨.ptr 166,1,8,(.pointer none),[.ptr],true⟩),
(161,⟨.arr 64 35,64,256,(.agg (lumpV .u32 64 (List.replicate 64 0)).toArray),[.lump .u32 64],true⟩),
(164,⟨.slice 35,1,24,(.slice none 0 0),[.sl],true⟩),
(166,⟨.struct [(30,0),(31,1)],2,32,(.agg [(.slice none 0 0),(.int .i64 (0:Int))].toArray),[.sl, .int .i64],true⟩),
(171,⟨.arr 256 4,256,256,(.agg [(.bool false),(.bool false),(.bool false),(.bool false),(.bool false),(.bool false),(.bool false),(.bool false),(.bool false),(.bool false),(.bool false),(.bool false),(.bool false),(.bool false),(.bool false),(.bool false),(.bool false),(.bool false),(.bool false),(.bool false),(.bool false),(.bool false),(.bool false),(.bool false),(.bool false),(.bool false),(.bool false),(.bool false),(.bool false),(.bool false),(.bool false),(.bool false),(.bool false),(.bool false),(.bool false),(.bool false),(.bool false),(.bool false),(.bool false),(.bool false),(.bool false),(.bool false),(.bool false),(.bool false),(.bool false),(.bool false),(.bool false),(.bool false),(.bool false),(.bool false),(.bool false),(.bool false),(.bool false),(.bool false),(.bool false),(.bool false),(.bool false),(.bool false),(.bool false),(.bool false),(.bool false),(.bool false),(.bool false),(.bool false),(.bool false),(.bool false),(.bool false),(.bool false),(.bool false),(.bool false),(.bool false),(.bool false),(.bool false),(.bool false),(.bool false),(.bool false),(.bool false),(.bool false),(.bool false),(.bool false),(.bool false),(.bool false),(.bool false),(.bool false),(.bool false),(.bool false),(.bool false),(.bool false),(.bool false),(.bool false),(.bool false),(.bool false),(.bool false),(.bool false),(.bool false),(.bool false),(.bool false),(.bool false),(.bool false),(.bool false),(.bool false),(.bool false),(.bool false),(.bool false),(.bool false),(.bool false),(.bool false),(.bool false),(.bool false),(.bool false),(.bool false),(.bool false),(.bool false),(.bool false),(.bool false),(.bool false),(.bool false),(.bool false),(.bool false),(.bool false),(.bool false),(.bool false),(.bool false),(.bool false),(.bool false),(.bool false),(.bool false),(.bool false),(.bool false),(.bool false),(.bool false),(.bool false),(.bool false),(.bool false),(.bool false),(.bool false),(.bool false),(.bool false),(.bool false),(.bool false),(.bool false),(.bool false),(.bool false),(.bool false),(.bool false),(.bool false),(.bool false),(.bool false),(.bool false),(.bool false),(.bool false),(.bool false),(.bool false),(.bool false),(.bool false),(.bool false),(.bool false),(.bool false),(.bool false),(.bool false),(.bool false),(.bool false),(.bool false),(.bool false),(.bool false),(.bool false),(.bool false),(.bool false),(.bool false),(.bool false),(.bool false),(.bool false),(.bool false),(.bool false),(.bool false),(.bool false),(.bool false),(.bool false),(.bool false),(.bool false),(.bool false),(.bool false),(.bool false),(.bool false),(.bool false),(.bool false),(.bool false),(.bool false),(.bool false),(.bool false),(.bool false),(.bool false),(.bool false),(.bool false),(.bool false),(.bool false),(.bool false),(.bool false),(.bool false),(.bool false),(.bool false),(.bool false),(.bool false),(.bool false),(.bool false),(.bool false),(.bool false),(.bool false),(.bool false),(.bool false),(.bool false),(.bool false),(.bool false),(.bool false),(.bool false),(.bool false),(.bool false),(.bool false),(.bool false),(.bool false),(.bool false),(.bool false),(.bool false),(.bool false),(.bool false),(.bool false),(.bool false),(.bool false),(.bool false),(.bool false),(.bool false),(.bool false),(.bool false),(.bool false),(.bool false),(.bool false),(.bool false),(.bool false),(.bool false),(.bool false),(.bool false),(.bool false),(.bool false),(.bool false),(.bool false),(.bool false),(.bool false),(.bool false),(.bool false),(.bool false),(.bool false),(.bool false),(.bool false),(.bool false),(.bool false),(.bool false)].toArray),[.bool, .bool, .bool, .bool, .bool, .bool, .bool, .bool, .bool, .bool, .bool, .bool, .bool, .bool, .bool, .bool, .bool, .bool, .bool, .bool, .bool, .bool, .bool, .bool, .bool, .bool, .bool, .bool, .bool, .bool, .bool, .bool, .bool, .bool, .bool, .bool, .bool, .bool, .bool, .bool, .bool, .bool, .bool, .bool, .bool, .bool, .bool, .bool, .bool, .bool, .bool, .bool, .bool, .bool, .bool, .bool, .bool, .bool, .bool, .bool, .bool, .bool, .bool, .bool, .bool, .bool, .bool, .bool, .bool, .bool, .bool, .bool, .bool, .bool, .bool, .bool, .bool, .bool, .bool, .bool, .bool, .bool, .bool, .bool, .bool, .bool, .bool, .bool, .bool, .bool, .bool, .bool, .bool, .bool, .bool, .bool, .bool, .bool, .bool, .bool, .bool, .bool, .bool, .bool, .bool, .bool, .bool, .bool, .bool, .bool, .bool, .bool, .bool, .bool, .bool, .bool, .bool, .bool, .bool, .bool, .bool, .bool, .bool, .bool, .bool, .bool, .bool, .bool, .bool, .bool, .bool, .bool, .bool, .bool, .bool, .bool, .bool, .bool, .bool, .bool, .bool, .bool, .bool, .bool, .bool, .bool, .bool, .bool, .bool, .bool, .bool, .bool, .bool, .bool, .bool, .bool, .bool, .bool, .bool, .bool, .bool, .bool, .bool, .bool, .bool, .bool, .bool, .bool, .bool, .bool, .bool, .bool, .bool, .bool, .bool, .bool, .bool, .bool, .bool, .bool, .bool, .bool, .bool, .bool, .bool, .bool, .bool, .bool, .bool, .bool, .bool, .bool, .bool, .bool, .bool, .bool, .bool, .bool, .bool, .bool, .bool, .bool, .bool, .bool, .bool, .bool, .bool, .bool, .bool, .bool, .bool, .bool, .bool, .bool, .bool, .bool, .bool, .bool, .bool, .bool, .bool, .bool, .bool, .bool, .bool, .bool, .bool, .bool, .bool, .bool, .bool, .bool, .bool, .bool, .bool, .bool, .bool, .bool, .bool, .bool, .bool, .bool, .bool, .bool, .bool, .bool, .bool, .bool, .bool, .bool, .bool, .bool, .bool, .bool, .bool, .bool],true⟩),
(175,⟨.ptr 171,1,8,(.pointer none),[.ptr],true⟩),
(180,⟨.arr 256 5,256,256,(.agg (lumpV .u8 256 (List.replicate 256 0)).toArray),[.lump .u8 256],true⟩),
(182,⟨.struct [(5,0),(5,1)],2,2,(.agg [(.int .u8 (0:Int)),(.int .u8 (0:Int))].toArray),[.int .u8, .int .u8],true⟩),
(183,⟨.arr 16 182,32,32,(.agg [(.int .u8 (0:Int)),(.int .u8 (0:Int)),(.int .u8 (0:Int)),(.int .u8 (0:Int)),(.int .u8 (0:Int)),(.int .u8 (0:Int)),(.int .u8 (0:Int)),(.int .u8 (0:Int)),(.int .u8 (0:Int)),(.int .u8 (0:Int)),(.int .u8 (0:Int)),(.int .u8 (0:Int)),(.int .u8 (0:Int)),(.int .u8 (0:Int)),(.int .u8 (0:Int)),(.int .u8 (0:Int)),(.int .u8 (0:Int)),(.int .u8 (0:Int)),(.int .u8 (0:Int)),(.int .u8 (0:Int)),(.int .u8 (0:Int)),(.int .u8 (0:Int)),(.int .u8 (0:Int)),(.int .u8 (0:Int)),(.int .u8 (0:Int)),(.int .u8 (0:Int)),(.int .u8 (0:Int)),(.int .u8 (0:Int)),(.int .u8 (0:Int)),(.int .u8 (0:Int)),(.int .u8 (0:Int)),(.int .u8 (0:Int))].toArray),[.int .u8, .int .u8, .int .u8, .int .u8, .int .u8, .int .u8, .int .u8, .int .u8, .int .u8, .int .u8, .int .u8, .int .u8, .int .u8, .int .u8, .int .u8, .int .u8, .int .u8, .int .u8, .int .u8, .int .u8, .int .u8, .int .u8, .int .u8, .int .u8, .int .u8, .int .u8, .int .u8, .int .u8, .int .u8, .int .u8, .int .u8, .int .u8],true⟩),
(200,⟨.func,1,8,Value.nilFunc,[.any],true⟩),
(202,⟨.slice 206,1,24,(.slice none 0 0),[.sl],true⟩),
(204,⟨.struct [(202,0),(38,1)],35,72,(.agg (([(.slice none 0 0),(.int .i64 (0:Int)),(.int .u32 (0:Int))]:List Value)++lumpV .u8 32 (List.replicate 32 0)).toArray),[.sl, .int .i64, .int .u32, .lump .u8 32],true⟩),
(206,⟨.struct [(3,0),(85,1)],2,32,(.agg [(.int .i64 (0:Int)),(.slice none 0 0)].toArray),[.int .i64, .sl],true⟩),
(214,⟨.slice 216,1,24,(.slice none 0 0),[.sl],true⟩),
(216,⟨.struct [(3,0),(30,1)],2,32,(.agg [(.int .i64 (0:Int)),(.slice none 0 0)].toArray),[.int .i64, .sl],true⟩),
(222,⟨.struct [(30,0),(4,1)],2,32,(.agg [(.slice none 0 0),(.bool false)].toArray),[.sl, .bool],true⟩),
(227,⟨.func,1,8,Value.nilFunc,[.any],true⟩),
(228,⟨.ptr 231,1,8,(.pointer none),[.ptr],true⟩),
(229,⟨.map 3 85,1,8,(.map none),[.map],true⟩),
(231,⟨.struct [(68,0),(36,1),(35,33),(53,34),(38,35),(229,69),(34,70)],71,152,(.agg (([(.pointer none)]:List Value)++lumpV .u8 32 (List.replicate 32 0)++([(.int .u32 (0:Int)),(.slice none 0 0),(.int .i64 (0:Int)),(.int .u32 (0:Int))]:List Value)++lumpV .u8 32 (List.replicate 32 0)++([(.map none),(.slice none 0 0)]:List Value)).toArray),[.ptr, .lump .u8 32, .int .u32, .sl, .int .i64, .int .u32, .lump .u8 32, .map, .sl],true⟩),
(247,⟨.map 3 4,1,8,(.map none),[.map],true⟩),
(251,⟨.func,1,8,Value.nilFunc,[.any],true⟩),
(254,⟨.int .i64,1,8,(.int .i64 (0:Int)),[.int .i64],true⟩),
(264,⟨.int .u64,1,8,(.int .u64 (0:Int)),[.int .u64],true⟩),
(268,⟨.ptr 3,1,8,(.pointer none),[.ptr],true⟩),
(274,⟨.struct [(202,0),(38,1)],35,72,(.agg (([(.slice none 0 0),(.int .i64 (0:Int)),(.int .u32 (0:Int))]:List Value)++lumpV .u8 32 (List.replicate 32 0)).toArray),[.sl, .int .i64, .int .u32, .lump .u8 32],true⟩)]
theorem agree:Agree Tryz.prog τ:=agree_of _ _ (by kernel_rfl) (by kernel_rfl)
theorem mixed:Tryz.prog.follows .mixedOrders=true:=by kernel_rfl
noncomputable def ft:FT:=[(3,Tryz.f3),(4,Tryz.f4),(5,Tryz.f5),(6,Tryz.f6),(7,Tryz.f7),(8,Tryz.f8),(9,Tryz.f9),(10,Tryz.f10),(11,Tryz.f11),(12,Tryz.f12),(13,Tryz.f13),(14,Tryz.f14),(15,Tryz.f15),(16,Tryz.f16),(17,Tryz.f17),(18,Tryz.f18),(19,Tryz.f19),(20,Tryz.f20),(21,Tryz.f21),(22,Tryz.f22),(23,Tryz.f23),(24,Tryz.f24),(25,Tryz.f25),(26,Tryz.f26),(27,Tryz.f27),(28,Tryz.f28),(29,Tryz.f29),(30,Tryz.f30),(31,Tryz.f31),(32,Tryz.f32),(33,Tryz.f33),(34,Tryz.f34),(35,Tryz.f35),(36,Tryz.f36),(37,Tryz.f37),(38,Tryz.f38),(39,Tryz.f39),(40,Tryz.f40),(41,Tryz.f41),(42,Tryz.f42),(43,Tryz.f43),(44,Tryz.f44),(45,Tryz.f45),(46,Tryz.f46),(47,Tryz.f47),(48,Tryz.f48),(49,Tryz.f49),(50,Tryz.f50),(51,Tryz.f51),(52,Tryz.f52),(53,Tryz.f53),(54,Tryz.f54),(55,Tryz.f55),(56,Tryz.f56),(57,Tryz.f57),(58,Tryz.f58),(59,Tryz.f59),(60,Tryz.f60),(62,Tryz.f62),(63,Tryz.f63),(64,Tryz.f64),(65,Tryz.f65),(67,Tryz.f67),(68,Tryz.f68),(69,Tryz.f69),(70,Tryz.f70),(71,Tryz.f71),(72,Tryz.f72),(73,Tryz.f73),(74,Tryz.f74),(75,Tryz.f75),(76,Tryz.f76),(77,Tryz.f77),(78,Tryz.f78),(79,Tryz.f79),(80,Tryz.f80),(81,Tryz.f81),(82,Tryz.f82),(83,Tryz.f83),(84,Tryz.f84),(85,Tryz.f85),(86,Tryz.f86),(87,Tryz.f87),(88,Tryz.f88),(89,Tryz.f89),(90,Tryz.f90),(91,Tryz.f91),(92,Tryz.f92),(93,Tryz.f93),(94,Tryz.f94),(95,Tryz.f95),(96,Tryz.f96),(97,Tryz.f97),(98,Tryz.f98),(99,Tryz.f99),(100,Tryz.f100),(101,Tryz.f101),(102,Tryz.f102),(103,Tryz.f103),(104,Tryz.f104),(105,Tryz.f105),(106,Tryz.f106),(107,Tryz.f107),(123,Tryz.f123),(124,Tryz.f124),(125,Tryz.f125),(126,Tryz.f126),(127,Tryz.f127),(128,Tryz.f128),(129,Tryz.f129),(130,Tryz.f130),(131,Tryz.f131),(132,Tryz.f132),(133,Tryz.f133),(134,Tryz.f134),(135,Tryz.f135),(136,Tryz.f136),(137,Tryz.f137),(138,Tryz.f138),(139,Tryz.f139),(140,Tryz.f140),(141,Tryz.f141),(142,Tryz.f142),(143,Tryz.f143),(144,Tryz.f144),(145,Tryz.f145),(146,Tryz.f146),(147,Tryz.f147),(148,Tryz.f148),(149,Tryz.f149),(150,Tryz.f150),(151,Tryz.f151),(152,Tryz.f152),(153,Tryz.f153),(154,Tryz.f154),(155,Tryz.f155),(156,Tryz.f156),(157,Tryz.f157),(158,Tryz.f158),(159,Tryz.f159),(160,Tryz.f160),(161,Tryz.f161),(162,Tryz.f162),(163,Tryz.f163),(164,Tryz.f164),(165,Tryz.f165),(166,Tryz.f166),(167,Tryz.f167),(168,Tryz.f168),(169,Tryz.f169),(170,Tryz.f170),(171,Tryz.f171),(172,Tryz.f172),(173,Tryz.f173),(174,Tryz.f174),(175,Tryz.f175),(176,Tryz.f176),(177,Tryz.f177),(178,Tryz.f178),(179,Tryz.f179),(180,Tryz.f180),(181,Tryz.f181),(182,Tryz.f182),(183,Tryz.f183),(184,Tryz.f184),(185,Tryz.f185),(186,Tryz.f186),(187,Tryz.f187),(188,Tryz.f188),(189,Tryz.f189),(190,Tryz.f190),(191,Tryz.f191),(192,Tryz.f192),(193,Tryz.f193),(194,Tryz.f194),(195,Tryz.f195),(196,Tryz.f196),(197,Tryz.f197),(200,Tryz.f200),(201,Tryz.f201),(202,Tryz.f202),(203,Tryz.f203),(204,Tryz.f204),(205,Tryz.f205),(206,Tryz.f206),(207,Tryz.f207),(208,Tryz.f208),(209,Tryz.f209),(210,Tryz.f210),(212,Tryz.f212),(213,Tryz.f213),(214,Tryz.f214),(215,Tryz.f215),(216,Tryz.f216),(217,Tryz.f217),(218,Tryz.f218),(219,Tryz.f219)]
theorem ft_ok:FOk Tryz.prog ft:=
  fOk_cons Tryz.func3 (by kernel_rfl) <|
  fOk_cons Tryz.func4 (by kernel_rfl) <|
  fOk_cons Tryz.func5 (by kernel_rfl) <|
  fOk_cons Tryz.func6 (by kernel_rfl) <|
  fOk_cons Tryz.func7 (by kernel_rfl) <|
  fOk_cons Tryz.func8 (by kernel_rfl) <|
  fOk_cons Tryz.func9 (by kernel_rfl) <|
  fOk_cons Tryz.func10 (by kernel_rfl) <|
  fOk_cons Tryz.func11 (by kernel_rfl) <|
  fOk_cons Tryz.func12 (by kernel_rfl) <|
  fOk_cons Tryz.func13 (by kernel_rfl) <|
  fOk_cons Tryz.func14 (by kernel_rfl) <|
  fOk_cons Tryz.func15 (by kernel_rfl) <|
  fOk_cons Tryz.func16 (by kernel_rfl) <|
  fOk_cons Tryz.func17 (by kernel_rfl) <|
  fOk_cons Tryz.func18 (by kernel_rfl) <|
  fOk_cons Tryz.func19 (by kernel_rfl) <|
  fOk_cons Tryz.func20 (by kernel_rfl) <|
  fOk_cons Tryz.func21 (by kernel_rfl) <|
  fOk_cons Tryz.func22 (by kernel_rfl) <|
  fOk_cons Tryz.func23 (by kernel_rfl) <|
  fOk_cons Tryz.func24 (by kernel_rfl) <|
  fOk_cons Tryz.func25 (by kernel_rfl) <|
  fOk_cons Tryz.func26 (by kernel_rfl) <|
  fOk_cons Tryz.func27 (by kernel_rfl) <|
  fOk_cons Tryz.func28 (by kernel_rfl) <|
  fOk_cons Tryz.func29 (by kernel_rfl) <|
  fOk_cons Tryz.func30 (by kernel_rfl) <|
  fOk_cons Tryz.func31 (by kernel_rfl) <|
  fOk_cons Tryz.func32 (by kernel_rfl) <|
  fOk_cons Tryz.func33 (by kernel_rfl) <|
  fOk_cons Tryz.func34 (by kernel_rfl) <|
  fOk_cons Tryz.func35 (by kernel_rfl) <|
  fOk_cons Tryz.func36 (by kernel_rfl) <|
  fOk_cons Tryz.func37 (by kernel_rfl) <|
  fOk_cons Tryz.func38 (by kernel_rfl) <|
  fOk_cons Tryz.func39 (by kernel_rfl) <|
  fOk_cons Tryz.func40 (by kernel_rfl) <|
  fOk_cons Tryz.func41 (by kernel_rfl) <|
  fOk_cons Tryz.func42 (by kernel_rfl) <|
  fOk_cons Tryz.func43 (by kernel_rfl) <|
  fOk_cons Tryz.func44 (by kernel_rfl) <|
  fOk_cons Tryz.func45 (by kernel_rfl) <|
  fOk_cons Tryz.func46 (by kernel_rfl) <|
  fOk_cons Tryz.func47 (by kernel_rfl) <|
  fOk_cons Tryz.func48 (by kernel_rfl) <|
  fOk_cons Tryz.func49 (by kernel_rfl) <|
  fOk_cons Tryz.func50 (by kernel_rfl) <|
  fOk_cons Tryz.func51 (by kernel_rfl) <|
  fOk_cons Tryz.func52 (by kernel_rfl) <|
  fOk_cons Tryz.func53 (by kernel_rfl) <|
  fOk_cons Tryz.func54 (by kernel_rfl) <|
  fOk_cons Tryz.func55 (by kernel_rfl) <|
  fOk_cons Tryz.func56 (by kernel_rfl) <|
  fOk_cons Tryz.func57 (by kernel_rfl) <|
  fOk_cons Tryz.func58 (by kernel_rfl) <|
  fOk_cons Tryz.func59 (by kernel_rfl) <|
  fOk_cons Tryz.func60 (by kernel_rfl) <|
  fOk_cons Tryz.func62 (by kernel_rfl) <|
  fOk_cons Tryz.func63 (by kernel_rfl) <|
  fOk_cons Tryz.func64 (by kernel_rfl) <|
  fOk_cons Tryz.func65 (by kernel_rfl) <|
  fOk_cons Tryz.func67 (by kernel_rfl) <|
  fOk_cons Tryz.func68 (by kernel_rfl) <|
  fOk_cons Tryz.func69 (by kernel_rfl) <|
  fOk_cons Tryz.func70 (by kernel_rfl) <|
  fOk_cons Tryz.func71 (by kernel_rfl) <|
  fOk_cons Tryz.func72 (by kernel_rfl) <|
  fOk_cons Tryz.func73 (by kernel_rfl) <|
  fOk_cons Tryz.func74 (by kernel_rfl) <|
  fOk_cons Tryz.func75 (by kernel_rfl) <|
  fOk_cons Tryz.func76 (by kernel_rfl) <|
  fOk_cons Tryz.func77 (by kernel_rfl) <|
  fOk_cons Tryz.func78 (by kernel_rfl) <|
  fOk_cons Tryz.func79 (by kernel_rfl) <|
  fOk_cons Tryz.func80 (by kernel_rfl) <|
  fOk_cons Tryz.func81 (by kernel_rfl) <|
  fOk_cons Tryz.func82 (by kernel_rfl) <|
  fOk_cons Tryz.func83 (by kernel_rfl) <|
  fOk_cons Tryz.func84 (by kernel_rfl) <|
  fOk_cons Tryz.func85 (by kernel_rfl) <|
  fOk_cons Tryz.func86 (by kernel_rfl) <|
  fOk_cons Tryz.func87 (by kernel_rfl) <|
  fOk_cons Tryz.func88 (by kernel_rfl) <|
  fOk_cons Tryz.func89 (by kernel_rfl) <|
  fOk_cons Tryz.func90 (by kernel_rfl) <|
  fOk_cons Tryz.func91 (by kernel_rfl) <|
  fOk_cons Tryz.func92 (by kernel_rfl) <|
  fOk_cons Tryz.func93 (by kernel_rfl) <|
  fOk_cons Tryz.func94 (by kernel_rfl) <|
  fOk_cons Tryz.func95 (by kernel_rfl) <|
  fOk_cons Tryz.func96 (by kernel_rfl) <|
  fOk_cons Tryz.func97 (by kernel_rfl) <|
  fOk_cons Tryz.func98 (by kernel_rfl) <|
  fOk_cons Tryz.func99 (by kernel_rfl) <|
  fOk_cons Tryz.func100 (by kernel_rfl) <|
  fOk_cons Tryz.func101 (by kernel_rfl) <|
  fOk_cons Tryz.func102 (by kernel_rfl) <|
  fOk_cons Tryz.func103 (by kernel_rfl) <|
  fOk_cons Tryz.func104 (by kernel_rfl) <|
  fOk_cons Tryz.func105 (by kernel_rfl) <|
  fOk_cons Tryz.func106 (by kernel_rfl) <|
  fOk_cons Tryz.func107 (by kernel_rfl) <|
  fOk_cons Tryz.func123 (by kernel_rfl) <|
  fOk_cons Tryz.func124 (by kernel_rfl) <|
  fOk_cons Tryz.func125 (by kernel_rfl) <|
  fOk_cons Tryz.func126 (by kernel_rfl) <|
  fOk_cons Tryz.func127 (by kernel_rfl) <|
  fOk_cons Tryz.func128 (by kernel_rfl) <|
  fOk_cons Tryz.func129 (by kernel_rfl) <|
  fOk_cons Tryz.func130 (by kernel_rfl) <|
  fOk_cons Tryz.func131 (by kernel_rfl) <|
  fOk_cons Tryz.func132 (by kernel_rfl) <|
  fOk_cons Tryz.func133 (by kernel_rfl) <|
  fOk_cons Tryz.func134 (by kernel_rfl) <|
  fOk_cons Tryz.func135 (by kernel_rfl) <|
  fOk_cons Tryz.func136 (by kernel_rfl) <|
  fOk_cons Tryz.func137 (by kernel_rfl) <|
  fOk_cons Tryz.func138 (by kernel_rfl) <|
  fOk_cons Tryz.func139 (by kernel_rfl) <|
  fOk_cons Tryz.func140 (by kernel_rfl) <|
  fOk_cons Tryz.func141 (by kernel_rfl) <|
  fOk_cons Tryz.func142 (by kernel_rfl) <|
  fOk_cons Tryz.func143 (by kernel_rfl) <|
  fOk_cons Tryz.func144 (by kernel_rfl) <|
  fOk_cons Tryz.func145 (by kernel_rfl) <|
  fOk_cons Tryz.func146 (by kernel_rfl) <|
  fOk_cons Tryz.func147 (by kernel_rfl) <|
  fOk_cons Tryz.func148 (by kernel_rfl) <|
  fOk_cons Tryz.func149 (by kernel_rfl) <|
  fOk_cons Tryz.func150 (by kernel_rfl) <|
  fOk_cons Tryz.func151 (by kernel_rfl) <|
  fOk_cons Tryz.func152 (by kernel_rfl) <|
  fOk_cons Tryz.func153 (by kernel_rfl) <|
  fOk_cons Tryz.func154 (by kernel_rfl) <|
  fOk_cons Tryz.func155 (by kernel_rfl) <|
  fOk_cons Tryz.func156 (by kernel_rfl) <|
  fOk_cons Tryz.func157 (by kernel_rfl) <|
  fOk_cons Tryz.func158 (by kernel_rfl) <|
  fOk_cons Tryz.func159 (by kernel_rfl) <|
  fOk_cons Tryz.func160 (by kernel_rfl) <|
  fOk_cons Tryz.func161 (by kernel_rfl) <|
  fOk_cons Tryz.func162 (by kernel_rfl) <|
  fOk_cons Tryz.func163 (by kernel_rfl) <|
  fOk_cons Tryz.func164 (by kernel_rfl) <|
  fOk_cons Tryz.func165 (by kernel_rfl) <|
  fOk_cons Tryz.func166 (by kernel_rfl) <|
  fOk_cons Tryz.func167 (by kernel_rfl) <|
  fOk_cons Tryz.func168 (by kernel_rfl) <|
  fOk_cons Tryz.func169 (by kernel_rfl) <|
  fOk_cons Tryz.func170 (by kernel_rfl) <|
  fOk_cons Tryz.func171 (by kernel_rfl) <|
  fOk_cons Tryz.func172 (by kernel_rfl) <|
  fOk_cons Tryz.func173 (by kernel_rfl) <|
  fOk_cons Tryz.func174 (by kernel_rfl) <|
  fOk_cons Tryz.func175 (by kernel_rfl) <|
  fOk_cons Tryz.func176 (by kernel_rfl) <|
  fOk_cons Tryz.func177 (by kernel_rfl) <|
  fOk_cons Tryz.func178 (by kernel_rfl) <|
  fOk_cons Tryz.func179 (by kernel_rfl) <|
  fOk_cons Tryz.func180 (by kernel_rfl) <|
  fOk_cons Tryz.func181 (by kernel_rfl) <|
  fOk_cons Tryz.func182 (by kernel_rfl) <|
  fOk_cons Tryz.func183 (by kernel_rfl) <|
  fOk_cons Tryz.func184 (by kernel_rfl) <|
  fOk_cons Tryz.func185 (by kernel_rfl) <|
  fOk_cons Tryz.func186 (by kernel_rfl) <|
  fOk_cons Tryz.func187 (by kernel_rfl) <|
  fOk_cons Tryz.func188 (by kernel_rfl) <|
  fOk_cons Tryz.func189 (by kernel_rfl) <|
  fOk_cons Tryz.func190 (by kernel_rfl) <|
  fOk_cons Tryz.func191 (by kernel_rfl) <|
  fOk_cons Tryz.func192 (by kernel_rfl) <|
  fOk_cons Tryz.func193 (by kernel_rfl) <|
  fOk_cons Tryz.func194 (by kernel_rfl) <|
  fOk_cons Tryz.func195 (by kernel_rfl) <|
  fOk_cons Tryz.func196 (by kernel_rfl) <|
  fOk_cons Tryz.func197 (by kernel_rfl) <|
  fOk_cons Tryz.func200 (by kernel_rfl) <|
  fOk_cons Tryz.func201 (by kernel_rfl) <|
  fOk_cons Tryz.func202 (by kernel_rfl) <|
  fOk_cons Tryz.func203 (by kernel_rfl) <|
  fOk_cons Tryz.func204 (by kernel_rfl) <|
  fOk_cons Tryz.func205 (by kernel_rfl) <|
  fOk_cons Tryz.func206 (by kernel_rfl) <|
  fOk_cons Tryz.func207 (by kernel_rfl) <|
  fOk_cons Tryz.func208 (by kernel_rfl) <|
  fOk_cons Tryz.func209 (by kernel_rfl) <|
  fOk_cons Tryz.func210 (by kernel_rfl) <|
  fOk_cons Tryz.func212 (by kernel_rfl) <|
  fOk_cons Tryz.func213 (by kernel_rfl) <|
  fOk_cons Tryz.func214 (by kernel_rfl) <|
  fOk_cons Tryz.func215 (by kernel_rfl) <|
  fOk_cons Tryz.func216 (by kernel_rfl) <|
  fOk_cons Tryz.func217 (by kernel_rfl) <|
  fOk_cons Tryz.func218 (by kernel_rfl) <|
  fOk_cons Tryz.func219 (by kernel_rfl) <| fOk_nil
noncomputable def mth:Mth:=[(26, "Dead",19),(26, "Dirty",123),(26, "Done",124),(26, "Drop",125),(26, "Page",126),(26, "Pages",127),(26, "Plan",128),(26, "Root",129),(26, "Set",130),(26, "carling/lazy.alive",131),(26, "carling/lazy.ask",137),(26, "carling/lazy.isPending",152),(26, "carling/lazy.kids",171),(26, "carling/lazy.lookup",139),(26, "carling/lazy.loose",136),(26, "carling/lazy.need",138),(26, "carling/lazy.nodes",140),(26, "carling/lazy.ok",30),(26, "carling/lazy.ref",155),(69, "Dirty",200),(69, "Done",201),(69, "Drop",202),(69, "Page",203),(69, "Pages",204),(69, "Plan",205),(69, "Root",206),(69, "Set",207),(69, "carling/eager.ask",209),(69, "carling/eager.nodes",210),(69, "carling/eager.ok",208),(105, "Dirty",212),(105, "Done",213),(105, "Drop",214),(105, "Page",215),(105, "Pages",216),(105, "Plan",217),(105, "Root",218),(105, "Set",219)]
theorem mth_ok:MthOk Tryz.prog mth:=mthOk_of (by kernel_rfl)
end Go.Proofs.YtnjbidanmnbnhaaGreatDoor.ImgT
namespace Go.Proofs.YtnjbidanmnbnhaaGreatDoor.ImgT
open Go Go.Wc Go.Ey
def b1:List Int:=[63,113,157,255,14,72,177,96,80,248,111,5,204,254,155,225,212,117,114,138,206,251,57,126,218,65,105,94,23,115,71,118,34,67,204,91,139,51,60,131,7,199,116,34,138,7,44,20,66,48,60,143,65,120,255,165,252,33,21,155,182,217,134,81,222,168,52,77,132,193,29,83,137,250,25,12,72,215,100,39,69,164,210,18,67,123,95,99,211,49,152,98,80,216,210,116,199,98,241,167,251,176,214,229,242,182,82,207,207,118,43,102,146,61,100,121,40,6,19,191,230,139,26,83,217,245,179,182,80,237,24,174,215,230,153,88,152,8,239,191,62,168,182,14,170,183,109,46,134,67,234,69,160,253,201,46,31,107,180,23,149,117,246,184,208,54,69,231,53,136,86,116,65,81,201,93,184,51,174,120,112,180,192,118,202,69,198,56,21,148,236,103,148,197,249,249,200,218,225,194,215,121,125,216,208,20,86,216,164,26,2,248,216,20,84,41,200,212,204,169,25,123,2,162,66,244,88,69,6,67,31,113,22,118,124,177,120,21,230,73,48,231,3,124,48,183,232,217,161,118,164,114,222,192,157,16]
def d1:List Int:=[128,0,2,7,105,67,254,92,88,17,166,190,9,149,27,85,165,100,205,50,127,194,9,210,192,209,192,186,148,169,18,106]
theorem sum1:Pt.sumL b1=d1:=by kernel_rfl
end Go.Proofs.YtnjbidanmnbnhaaGreatDoor.ImgT
namespace Go.Proofs.YtnjbidanmnbnhaaGreatDoor.ImgT
open Go Go.Wc Go.Ey
def b2:List Int:=[214,73,197,254,200,178,182,133,180,119,67,210,254,149,220,0,193,62,168,126,39,95,166,234,124,203,207,60,14,157,49,218,61,161,36,106,210,165,110,192,115,212,136,106,73,254,160,122,230,63,100,24,132,199,31,20,240,107,44,245,150,89,81,238,47,242,226,127,132,163,144,50,149,114,16,159,141,87,117,102,77,167,10,101,39,111,68,73,166,240,97,130,169,70,210,19,23,217,171,61,253,3,98,28,139,161,156,0,194,26,81,220,111,49,187,116,212,220,186,247,14,134,31,45,200,110,39,144,213,194,36,50,113,100,231,195,176,109,42,234,82,150,252,1,218,81,92,68,219,119,51,194,220,208,226,246,130,18,13,21,211,110,101,38,163,119,48,218,147,81,12,80,222,195,9,148,15,219,50,179,245,131,94,118,124,209,236,102,101,203,84,191,62,66,104,58,112,248,54,82,108,42,200,167,181,6,143,218,38,137,108,48,206,101,250,80,150,16,6,141,70,186,19,102,135,142,46,213,163,219,193,152,247,42,253,239,39,193,77,82,189,208,129,101,134,69,221,162,244,67,177,119,23,210,59,100]
def d2:List Int:=[2,146,133,199,104,60,182,59,132,180,236,200,22,225,144,12,170,240,233,189,147,93,192,49,255,21,245,251,34,137,87,194]
theorem sum2:Pt.sumL b2=d2:=by kernel_rfl
def beqL:List Int→List Int→Bool
  | [],[]=>true
  | x::a,y::b=>eqF x y && beqL a b
  | _,_=>false
theorem beqL_ok: ∀ {a b:List Int},beqL a b=true→a=b
  | [],[],_=>rfl
  | x :: a, y :: b, h => by
    simp only [beqL,Bool.and_eq_true] at h
    have e:x=y:=by simpa [eqF_eq] using h.1
    rw [e,beqL_ok h.2]
  | [],_::_,h=>by simp [beqL] at h
  | _::_,[],h=>by simp [beqL] at h
def sumT (b:List Int):List Int:=bif beqL b b1 then d1 else bif beqL b b2 then d2 else Pt.sumL b
theorem sumT_eq (b:List Int):sumT b=Pt.sumL b:=by
  unfold sumT
  cases h1:beqL b b1 with
  | true=>rw [beqL_ok h1,cond_true,sum1]
  | false =>
    rw [cond_false]
    cases h2:beqL b b2 with
    | true=>rw [beqL_ok h2,cond_true,sum2]
    | false=>rfl
end Go.Proofs.YtnjbidanmnbnhaaGreatDoor.ImgT
namespace Go.Proofs.YtnjbidanmnbnhaaGreatDoor.ImgT
open Go Go.Wc Go.Ey
def k0:List Int:=[0,0,0,0,0,0,0,0,0,0,0,0,0,0,0,0,0,0,0,0,0,0,0,0,0,0,0,0,0,0,0,0]
def n1:List Int:=[1,0,0,0,2,0,0,0,0,0,0,0]
def n2:List Int:=[1,0,0,0,4,0,0,0,0,0,0,0]
def o10:List Int:=[62,113,157,255,14,72,177,96,80,248,111,5,204,254,155,225,212,117,114,138,206,251,57,126,218,65,105,94,23,115,71,118,34,67,204,91,139,51,60,131,7,199,116,34,138,7,44,20,66,48,60,143,65,120,255,165,252,33,21,155,182,217,134,81]
theorem blk10:Pt.blkS k0 n1 0=o10:=by kernel_rfl
def o11:List Int:=[222,168,52,77,132,193,29,83,137,250,25,12,72,215,100,39,69,164,210,18,67,123,95,99,211,49,152,98,80,216,210,116,199,98,241,167,251,176,214,229,242,182,82,207,207,118,43,102,146,61,100,121,40,6,19,191,230,139,26,83,217,245,179,182]
theorem blk11:Pt.blkS k0 n1 1=o11:=by kernel_rfl
def o12:List Int:=[80,237,24,174,215,230,153,88,152,8,239,191,62,168,182,14,170,183,109,46,134,67,234,69,160,253,201,46,31,107,180,23,149,117,246,184,208,54,69,231,53,136,86,116,65,81,201,93,184,51,174,120,112,180,192,118,202,69,198,56,21,148,236,103]
theorem blk12:Pt.blkS k0 n1 2=o12:=by kernel_rfl
def o13:List Int:=[148,197,249,249,200,218,225,194,215,121,125,216,208,20,86,216,164,26,2,248,216,20,84,41,200,212,204,169,25,123,2,162,66,244,88,69,6,67,31,113,22,118,124,177,120,21,230,73,48,231,3,124,48,183,232,217,161,118,164,114,222,192,157,16]
theorem blk13:Pt.blkS k0 n1 3=o13:=by kernel_rfl
def o20:List Int:=[215,73,196,254,200,178,54,133,182,112,42,145,0,201,132,17,103,128,161,235,60,10,3,142,177,249,176,254,7,79,241,11,253,27,176,195,192,207,110,192,115,212,136,106,73,254,160,122,230,63,100,24,132,199,31,20,240,107,44,245,150,89,81,238]
theorem blk20:Pt.blkS k0 n2 0=o20:=by kernel_rfl
def o21:List Int:=[47,242,226,127,132,163,144,50,149,114,16,159,141,87,117,102,77,167,10,101,39,111,68,73,166,240,97,130,169,70,210,19,23,217,171,61,253,3,98,28,139,161,156,0,194,26,81,220,111,49,187,116,212,220,186,247,14,134,31,45,200,110,39,144]
theorem blk21:Pt.blkS k0 n2 1=o21:=by kernel_rfl
def o22:List Int:=[213,194,36,50,113,100,231,195,176,109,42,234,82,150,252,1,218,81,92,68,219,119,51,194,220,208,226,246,130,18,13,21,211,110,101,38,163,119,48,218,147,81,12,80,222,195,9,148,15,219,50,179,245,131,94,118,124,209,236,102,101,203,84,191]
theorem blk22:Pt.blkS k0 n2 2=o22:=by kernel_rfl
def o23:List Int:=[62,66,104,58,112,248,54,82,108,42,200,167,181,6,143,218,38,137,108,48,206,101,250,80,150,16,6,141,70,186,19,102,135,142,46,213,163,219,193,152,247,42,253,239,39,193,77,82,189,208,129,101,134,69,221,162,244,67,177,119,23,210,59,100]
theorem blk23:Pt.blkS k0 n2 3=o23:=by kernel_rfl
def lt4:Int→Bool
  | .ofNat 0=>true
  | .ofNat 1=>true
  | .ofNat 2=>true
  | .ofNat 3=>true
  | _=>false
def selB (a b c d:List Int) (z:List Int):Int→List Int
  | .ofNat 0=>a
  | .ofNat 1=>b
  | .ofNat 2=>c
  | .ofNat 3=>d
  | _=>z
def blkT (k n:List Int) (c:Int):List Int:=bif beqL k k0 && beqL n n1 && lt4 c then selB o10 o11 o12 o13 [] c else bif beqL k k0 && beqL n n2 && lt4 c then selB o20 o21 o22 o23 [] c else Pt.blkS k n c
theorem sel_eq {n:List Int} {a b c d:List Int} (h0:Pt.blkS k0 n 0=a) (h1:Pt.blkS k0 n 1=b) (h2:Pt.blkS k0 n 2=c) (h3:Pt.blkS k0 n 3=d) {x:Int} (hx:lt4 x=true):selB a b c d [] x=Pt.blkS k0 n x:=by
  match x,hx with
  | .ofNat 0,_=>exact h0.symm
  | .ofNat 1,_=>exact h1.symm
  | .ofNat 2,_=>exact h2.symm
  | .ofNat 3,_=>exact h3.symm
theorem blkT_eq (k n:List Int) (c:Int):blkT k n c=Pt.blkS k n c:=by
  unfold blkT
  cases h1:(beqL k k0 && beqL n n1 && lt4 c) with
  | true =>
    simp only [Bool.and_eq_true] at h1
    rw [beqL_ok h1.1.1,beqL_ok h1.1.2,cond_true]
    exact sel_eq blk10 blk11 blk12 blk13 h1.2
  | false =>
    rw [cond_false]
    cases h2:(beqL k k0 && beqL n n2 && lt4 c) with
    | true =>
      simp only [Bool.and_eq_true] at h2
      rw [beqL_ok h2.1.1,beqL_ok h2.1.2,cond_true]
      exact sel_eq blk20 blk21 blk22 blk23 h2.2
    | false=>rfl
end Go.Proofs.YtnjbidanmnbnhaaGreatDoor.ImgT
namespace Go.Proofs.YtnjbidanmnbnhaaGreatDoor.ImgT
open Go Go.Wc Go.Ey Go.Proofs.YtnjbidanmnbnhaaGreatDoor
noncomputable def ext:CallF:=fun f xs S K=>bif Nat.beq f 61 then sumX sumT xs S K else bif Nat.beq f 66 then blockX blkT xs S K else False
theorem ext_ok:CallOk Tryz.prog ext:=by
  intro f xs S K H
  unfold ext at H
  cases hb:Nat.beq f 61 with
  | true =>
    have e:f=61:=Nat.eq_of_beq_eq_true hb
    subst e
    exact specOk_of Lk.ok61 fun args h Kr ⟨ν,F,S,xs,K,hv,R,hc,hk⟩=>sumX_ok sumT_eq hv R hc hk
  | false =>
    rw [hb] at H
    cases hb2:Nat.beq f 66 with
    | true =>
      have e:f=66:=Nat.eq_of_beq_eq_true hb2
      subst e
      exact specOk_of Lk.ok66 fun args h Kr ⟨ν,F,S,xs,K,hv,R,hc,hk⟩=>blockX_ok blkT_eq hv R hc hk
    | false=>rw [hb2] at H; exact H.elim
abbrev good:SV→SH→Prop:=fun s _=>match s with
  | .bool true=>True
  | _=>False
theorem run_ok {f : Nat} {xs : List SV} {args : List Value} (hv : VRL (fun _ => none) xs args) (H : callC τ mth 600 ext ft 40 f xs ⟨0, .e⟩ good) (W : World) :
    Calls Tryz.prog f args.toArray W fun e w'=>e= .returned (.bool true)∧Go.RowKit.Below W.heap.size W w':=by
  refine ((callC_ok (lf:=600) agree mth_ok ft_ok ext_ok mixed 40 f xs ⟨0, .e⟩ good H).2 args (fun v h'=>v= .bool true∧Wc.Keep [] W.heap h') W
    ⟨fun _=>none,fun b=>W.heap[b]?,⟨0, .e⟩,xs,good,hv, ?_,H, ?_⟩).mono ?_
  · refine ⟨fun nm o v hg=>by simp [Tr.get] at hg,fun nm x hn=>by simp at hn,fun nm x hg=>by simp [Tr.get] at hg,fun nm nm' o v o' v' x x' hg=>by simp [Tr.get] at hg,fun b ob hb=>⟨hb,fun nm o v x hg=>by simp [Tr.get] at hg⟩⟩
  · rintro v h' ⟨ν', s, S', hk, hvr, _, _, R'⟩
    have hb:v= .bool true:=by
      unfold good at hk
      split at hk
      · simpa only [VR] using hvr
      · exact hk.elim
    refine ⟨hb, ?_,fun b hb _=> ?_⟩
    · rcases Nat.eq_zero_or_pos W.heap.size with h0 | h0
      · omega
      · have := (R'.fr (W.heap.size - 1) _ (Array.getElem?_eq_getElem (by omega))).1
        have:=(Array.getElem?_eq_some_iff.1 this).1
        omega
    · rw [(R'.fr b _ (Array.getElem?_eq_getElem hb)).1,Array.getElem?_eq_getElem hb]
  · rintro e w' ⟨v, rfl, hs, rfl, hk⟩
    exact ⟨rfl,⟨hs.1,hs.2.2,hs.2.1,hk.1,fun k hk2=>hk.2 k hk2 (by simp)⟩⟩
end Go.Proofs.YtnjbidanmnbnhaaGreatDoor.ImgT
