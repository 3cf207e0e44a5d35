import Derived.Test.YtpjehkdneiclnaaCnTx
import Derived.Test.YtpjehkdneiclnaaCnPm0
import Derived.Test.YtpjehkdneiclnaaCnLw1
set_option linter.unusedVariables false
set_option linter.unusedSimpArgs false
set_option maxRecDepth 20000
namespace Go.Pt
open Go Go.Wc Go.Pu
variable {ρ:Ids} {h:Hp} {A:List At}
structure shape_Shape where
  begins:List Int
  deriving DecidableEq
structure carlingref12_Shape where
  P:Int
  Level:List Int
  First:List Int
  deriving DecidableEq
structure carlingref09_Ref where
  Place:Int
  Epoch:Int
  Digest:Vector Int 32
  deriving DecidableEq
structure carlingref16_Node where
  Item:Int
  Refs:List carlingref09_Ref
  deriving DecidableEq
def R_carlingref09_Ref : Rp carlingref09_Ref where
  n:=34
  P:=fun h M vs x=>vs=([.int .i64 x.Place, .int .u32 x.Epoch]:List Value)++lumpV .u8 32 x.Digest.toList
  len:=by
    rintro _ _ _ x rfl
    simp [lumpV_length]
  one:=by
    rintro _ _ _ x rfl
    repeat (first | exact all_one rfl | exact all_one (allOne_lump _ _ _) | refine all_app ?_ ?_)
  mono:=by
    rintro _ _ _ _ _ x hL rfl
    exact rfl
theorem ocarlingref09_Ref {h:Hp} {A:List At} {vs:List Value} {x:carlingref09_Ref} {G:Prop} (I:Inv h (repA R_carlingref09_Ref vs x::A)) (k:vs=([.int .i64 x.Place, .int .u32 x.Epoch]:List Value)++lumpV .u8 32 x.Digest.toList→Inv h (A)→G):G:=by
  obtain ⟨F,M,⟨hF,e⟩,hFM,hn,hlt,HH⟩:=I.turn
  exact k e (HH h [] [] (Keep.refl _ _) (by simp) (by simp) fun M' hL _ _=>trivial)
theorem ixcarlingref09_Ref {h:Hp} {A:List At} {a':At} {a:Option Addr} {nl c:Nat} {l:List carlingref09_Ref} {i:Int} {K':carlingref09_Ref→Prop} {K:Addr→Prop} (hX:Rd R_carlingref09_Ref a' a nl c l) (I:Inv h (a'::A)) (H:ixP l i K')
    (k: ∀ p x,EAdr a 34 i p→(0≤i∧i<l.length)→hcell h (p.add 0)=some (.int .i64 x.Place)→hcell h (p.add 1)=some (.int .u32 x.Epoch)→lfact .u8 32 x.Digest.toList (p.add 2) h→Inv h (a'::A)→K' x→K p):ixW a nl i 34 K:=
  ix_r hX I (by decide) H fun p vs x he _ hc I hx=>ocarlingref09_Ref I fun e I=>k p x he (ixP_lt H) (hc 0 _ (by subst e; rfl)) (hc 1 _ (by subst e; rfl)) (lfact_of hc 2 (by subst e; exact drop_app _ _ (by simp [lumpV_length]))) I hx
theorem elcarlingref09_Ref {h:Hp} {A:List At} {a':At} {a:Option Addr} {nl c:Nat} {l:List carlingref09_Ref} {i:Int} {p:Addr} {x:carlingref09_Ref} (hX:Rd R_carlingref09_Ref a' a nl c l) (I:Inv h (a'::A)) (he:EAdr a 34 i p) (hb:0≤i∧i<l.length) (hg:l[i.toNat]? =some x):hcell h (p.add 0)=some (.int .i64 x.Place)∧hcell h (p.add 1)=some (.int .u32 x.Epoch)∧lfact .u8 32 x.Digest.toList (p.add 2) h:=by
  have key:ixW a nl i 34 (fun q=>q=p→hcell h (p.add 0)=some (.int .i64 x.Place)∧hcell h (p.add 1)=some (.int .u32 x.Epoch)∧lfact .u8 32 x.Digest.toList (p.add 2) h):=ixcarlingref09_Ref (K':=fun y=>y=x) hX I ⟨hb.1,x,hg,rfl⟩ fun q y _ _ f0 f1 f2 _ e hq=>by
    subst e hq; exact ⟨f0,f1,f2⟩
  obtain ⟨b,e1,_,e3⟩:=key
  obtain ⟨b2,e4,e5⟩:=he
  rw [e1] at e4; cases e4
  exact e3 e5.symm
theorem mcarlingref09_Ref {h:Hp} {A:List At} (x:carlingref09_Ref) (I:Inv h A):Inv h (repA R_carlingref09_Ref (([.int .i64 x.Place, .int .u32 x.Epoch]:List Value)++lumpV .u8 32 x.Digest.toList) x::A):=I.addP fun M _=>⟨rfl,rfl⟩
theorem zcarlingref09_Ref (h:Hp) (M:List Nat):R_carlingref09_Ref.P h M (([(.int .i64 (0:Int)),(.int .u32 (0:Int))]:List Value)++lumpV .u8 32 (List.replicate 32 0)) (⟨(0:Int),(0:Int),(Vector.replicate 32 (0:Int))⟩:carlingref09_Ref):=rfl
theorem lkcarlingref09_Ref {κ:Type} [DecidableEq κ] {Kx:Ky κ} {h:Hp} {A:List At} {m:Option Nat} {o:Option (Array MapEntry × Nat)} {L:Option (List (κ × carlingref09_Ref))} {key:κ} {K:(Hp→Prop)→Int→Int→List Int→Bool→Prop}
    {K':carlingref09_Ref→Bool→Prop} (I:Inv h (mapX Kx R_carlingref09_Ref true m o L::A)) (H:lkP L key (⟨(0:Int),(0:Int),(Vector.replicate 32 (0:Int))⟩:carlingref09_Ref) K') (k: ∀ f x ok,(∀ {h' A'},Inv h' (mapX Kx R_carlingref09_Ref true m o L::A')→f h')→Inv h (mapX Kx R_carlingref09_Ref true m o L::A)→K' x ok→K f x.Place x.Epoch x.Digest.toList ok):
    lkW Kx.kd h m (Kx.enc key) fun f ov=> ∃ y0:Int,∃ y1:Int,∃ y2:List Int,(ov.getD (.agg (([(.int .i64 (0:Int)),(.int .u32 (0:Int))]:List Value)++lumpV .u8 32 (List.replicate 32 0)).toArray)= .agg (([(.int .i64 y0),(.int .u32 y1)]:List Value)++lumpV .u8 32 y2).toArray)∧letB ov.isSome fun ok=>K f y0 y1 y2 ok:=
  lk_r (zvs:=(([(.int .i64 (0:Int)),(.int .u32 (0:Int))]:List Value)++lumpV .u8 32 (List.replicate 32 0))) (z0:=(⟨(0:Int),(0:Int),(Vector.replicate 32 (0:Int))⟩:carlingref09_Ref)) I rfl zcarlingref09_Ref fun f ov vs h1 h2 hf J=>ocarlingref09_Ref J fun e J2=>by
    subst e
    refine ⟨_,_,_,h1, ?_⟩
    show K f _ _ _ ov.isSome
    rw [h2]; exact k f _ _ hf J2 H
def R_carlingref16_Node : Rp carlingref16_Node where
  n:=2
  P:=fun h M vs x=> ∃ (a0:Option Addr) (c0:Nat),vs=[.int .i64 x.Item, .slice a0 x.Refs.length c0]∧SlE R_carlingref09_Ref h M a0 c0 x.Refs
  len:=by
    rintro _ _ _ x ⟨a0,c0,rfl,h0⟩
    rfl
  one:=by
    rintro _ _ _ x ⟨a0,c0,rfl,h0⟩
    exact all_one rfl
  mono:=by
    rintro _ _ _ _ _ x hL ⟨a0,c0,rfl,h0⟩
    exact ⟨a0,c0,rfl,h0.mono hL⟩
theorem ocarlingref16_Node {h:Hp} {A:List At} {vs:List Value} {x:carlingref16_Node} {G:Prop} (I:Inv h (repA R_carlingref16_Node vs x::A)) (k: ∀ a0 c0,vs=[.int .i64 x.Item, .slice a0 x.Refs.length c0]→Inv h (roS R_carlingref09_Ref a0 x.Refs.length c0 x.Refs::A)→G):G:=by
  obtain ⟨F,M,⟨hF,a0,c0,e,h0⟩,hFM,hn,hlt,HH⟩:=I.turn
  exact k a0 c0 e (HH h [roS R_carlingref09_Ref a0 x.Refs.length c0 x.Refs] [[]] (Keep.refl _ _) (by simp) (by simp) fun M' hL _ _=>⟨⟨rfl,rfl,h0.mono hL⟩,trivial⟩)
theorem ixcarlingref16_Node {h:Hp} {A:List At} {a':At} {a:Option Addr} {nl c:Nat} {l:List carlingref16_Node} {i:Int} {K':carlingref16_Node→Prop} {K:Addr→Prop} (hX:Rd R_carlingref16_Node a' a nl c l) (I:Inv h (a'::A)) (H:ixP l i K')
    (k: ∀ p x a0 c0,EAdr a 2 i p→(0≤i∧i<l.length)→hcell h (p.add 0)=some (.int .i64 x.Item)→hcell h (p.add 1)=some (.slice a0 x.Refs.length c0)→Inv h (roS R_carlingref09_Ref a0 x.Refs.length c0 x.Refs::a'::A)→K' x→K p):ixW a nl i 2 K:=
  ix_r hX I (by decide) H fun p vs x he _ hc I hx=>ocarlingref16_Node I fun a0 c0 e I=>k p x a0 c0 he (ixP_lt H) (hc 0 _ (by subst e; rfl)) (hc 1 _ (by subst e; rfl)) I hx
theorem mcarlingref16_Node {h:Hp} {A:List At} {a0:Option Addr} {n0 c0:Nat} (x:carlingref16_Node) (I:Inv h (roS R_carlingref09_Ref a0 n0 c0 x.Refs::A)):Inv h (repA R_carlingref16_Node ([.int .i64 x.Item, .slice a0 n0 c0]) x::A):=by
  refine I.conv fun F M ⟨hF,e0,h0⟩=>⟨hF,a0,c0,by rw [e0],h0⟩
theorem zcarlingref16_Node (h:Hp) (M:List Nat):R_carlingref16_Node.P h M [(.int .i64 (0:Int)),(.slice none 0 0)] (⟨(0:Int),[]⟩:carlingref16_Node):=⟨none,0,rfl,sle_nil⟩
theorem lkcarlingref16_Node {κ:Type} [DecidableEq κ] {Kx:Ky κ} {h:Hp} {A:List At} {m:Option Nat} {o:Option (Array MapEntry × Nat)} {L:Option (List (κ × carlingref16_Node))} {key:κ} {K:(Hp→Prop)→Int→Sl→Bool→Prop}
    {K':carlingref16_Node→Bool→Prop} (I:Inv h (mapX Kx R_carlingref16_Node true m o L::A)) (H:lkP L key (⟨(0:Int),[]⟩:carlingref16_Node) K') (k: ∀ f a0 c0 x ok,(∀ {h' A'},Inv h' (mapX Kx R_carlingref16_Node true m o L::A')→f h')→Inv h (roS R_carlingref09_Ref a0 x.Refs.length c0 x.Refs::mapX Kx R_carlingref16_Node true m o L::A)→K' x ok→K f x.Item ⟨a0,x.Refs.length,c0⟩ ok):
    lkW Kx.kd h m (Kx.enc key) fun f ov=> ∃ y0:Int,∃ y1:Sl,(ov.getD (.agg [(.int .i64 (0:Int)),(.slice none 0 0)].toArray)= .agg [(.int .i64 y0),(.slice y1.a y1.len y1.cap)].toArray)∧letB ov.isSome fun ok=>K f y0 y1 ok:=
  lk_r (zvs:=[(.int .i64 (0:Int)),(.slice none 0 0)]) (z0:=(⟨(0:Int),[]⟩:carlingref16_Node)) I rfl zcarlingref16_Node fun f ov vs h1 h2 hf J=>ocarlingref16_Node J fun a0 c0 e J2=>by
    subst e
    refine ⟨_,⟨a0,_,c0⟩,h1, ?_⟩
    show K f _ _ ov.isSome
    rw [h2]; exact k f a0 c0 _ _ hf J2 H
structure carlingref16_Change where
  Page:Int
  Bytes:List Int
  deriving DecidableEq
def R_carlingref16_Change : Rp carlingref16_Change where
  n:=2
  P:=fun h M vs x=> ∃ (a0:Option Addr) (c0:Nat),vs=[.int .i64 x.Page, .slice a0 x.Bytes.length c0]∧SlE (rI .u8) h M a0 c0 x.Bytes
  len:=by
    rintro _ _ _ x ⟨a0,c0,rfl,h0⟩
    rfl
  one:=by
    rintro _ _ _ x ⟨a0,c0,rfl,h0⟩
    exact all_one rfl
  mono:=by
    rintro _ _ _ _ _ x hL ⟨a0,c0,rfl,h0⟩
    exact ⟨a0,c0,rfl,h0.mono hL⟩
theorem ocarlingref16_Change {h:Hp} {A:List At} {vs:List Value} {x:carlingref16_Change} {G:Prop} (I:Inv h (repA R_carlingref16_Change vs x::A)) (k: ∀ a0 c0,vs=[.int .i64 x.Page, .slice a0 x.Bytes.length c0]→Inv h (roS (rI .u8) a0 x.Bytes.length c0 x.Bytes::A)→G):G:=by
  obtain ⟨F,M,⟨hF,a0,c0,e,h0⟩,hFM,hn,hlt,HH⟩:=I.turn
  exact k a0 c0 e (HH h [roS (rI .u8) a0 x.Bytes.length c0 x.Bytes] [[]] (Keep.refl _ _) (by simp) (by simp) fun M' hL _ _=>⟨⟨rfl,rfl,h0.mono hL⟩,trivial⟩)
theorem ixcarlingref16_Change {h:Hp} {A:List At} {a':At} {a:Option Addr} {nl c:Nat} {l:List carlingref16_Change} {i:Int} {K':carlingref16_Change→Prop} {K:Addr→Prop} (hX:Rd R_carlingref16_Change a' a nl c l) (I:Inv h (a'::A)) (H:ixP l i K')
    (k: ∀ p x a0 c0,EAdr a 2 i p→(0≤i∧i<l.length)→hcell h (p.add 0)=some (.int .i64 x.Page)→hcell h (p.add 1)=some (.slice a0 x.Bytes.length c0)→Inv h (roS (rI .u8) a0 x.Bytes.length c0 x.Bytes::a'::A)→K' x→K p):ixW a nl i 2 K:=
  ix_r hX I (by decide) H fun p vs x he _ hc I hx=>ocarlingref16_Change I fun a0 c0 e I=>k p x a0 c0 he (ixP_lt H) (hc 0 _ (by subst e; rfl)) (hc 1 _ (by subst e; rfl)) I hx
theorem mcarlingref16_Change {h:Hp} {A:List At} {a0:Option Addr} {n0 c0:Nat} (x:carlingref16_Change) (I:Inv h (roS (rI .u8) a0 n0 c0 x.Bytes::A)):Inv h (repA R_carlingref16_Change ([.int .i64 x.Page, .slice a0 n0 c0]) x::A):=by
  refine I.conv fun F M ⟨hF,e0,h0⟩=>⟨hF,a0,c0,by rw [e0],h0⟩
theorem zcarlingref16_Change (h:Hp) (M:List Nat):R_carlingref16_Change.P h M [(.int .i64 (0:Int)),(.slice none 0 0)] (⟨(0:Int),[]⟩:carlingref16_Change):=⟨none,0,rfl,sle_nil⟩
theorem lkcarlingref16_Change {κ:Type} [DecidableEq κ] {Kx:Ky κ} {h:Hp} {A:List At} {m:Option Nat} {o:Option (Array MapEntry × Nat)} {L:Option (List (κ × carlingref16_Change))} {key:κ} {K:(Hp→Prop)→Int→Sl→Bool→Prop}
    {K':carlingref16_Change→Bool→Prop} (I:Inv h (mapX Kx R_carlingref16_Change true m o L::A)) (H:lkP L key (⟨(0:Int),[]⟩:carlingref16_Change) K') (k: ∀ f a0 c0 x ok,(∀ {h' A'},Inv h' (mapX Kx R_carlingref16_Change true m o L::A')→f h')→Inv h (roS (rI .u8) a0 x.Bytes.length c0 x.Bytes::mapX Kx R_carlingref16_Change true m o L::A)→K' x ok→K f x.Page ⟨a0,x.Bytes.length,c0⟩ ok):
    lkW Kx.kd h m (Kx.enc key) fun f ov=> ∃ y0:Int,∃ y1:Sl,(ov.getD (.agg [(.int .i64 (0:Int)),(.slice none 0 0)].toArray)= .agg [(.int .i64 y0),(.slice y1.a y1.len y1.cap)].toArray)∧letB ov.isSome fun ok=>K f y0 y1 ok:=
  lk_r (zvs:=[(.int .i64 (0:Int)),(.slice none 0 0)]) (z0:=(⟨(0:Int),[]⟩:carlingref16_Change)) I rfl zcarlingref16_Change fun f ov vs h1 h2 hf J=>ocarlingref16_Change J fun a0 c0 e J2=>by
    subst e
    refine ⟨_,⟨a0,_,c0⟩,h1, ?_⟩
    show K f _ _ ov.isSome
    rw [h2]; exact k f a0 c0 _ _ hf J2 H
structure seal_Ref where
  Place:Int
  Epoch:Int
  Digest:Vector Int 32
  deriving DecidableEq
structure commit_Node where
  Item:Int
  Refs:List seal_Ref
  deriving DecidableEq
def R_seal_Ref : Rp seal_Ref where
  n:=34
  P:=fun h M vs x=>vs=([.int .i64 x.Place, .int .u32 x.Epoch]:List Value)++lumpV .u8 32 x.Digest.toList
  len:=by
    rintro _ _ _ x rfl
    simp [lumpV_length]
  one:=by
    rintro _ _ _ x rfl
    repeat (first | exact all_one rfl | exact all_one (allOne_lump _ _ _) | refine all_app ?_ ?_)
  mono:=by
    rintro _ _ _ _ _ x hL rfl
    exact rfl
theorem oseal_Ref {h:Hp} {A:List At} {vs:List Value} {x:seal_Ref} {G:Prop} (I:Inv h (repA R_seal_Ref vs x::A)) (k:vs=([.int .i64 x.Place, .int .u32 x.Epoch]:List Value)++lumpV .u8 32 x.Digest.toList→Inv h (A)→G):G:=by
  obtain ⟨F,M,⟨hF,e⟩,hFM,hn,hlt,HH⟩:=I.turn
  exact k e (HH h [] [] (Keep.refl _ _) (by simp) (by simp) fun M' hL _ _=>trivial)
theorem ixseal_Ref {h:Hp} {A:List At} {a':At} {a:Option Addr} {nl c:Nat} {l:List seal_Ref} {i:Int} {K':seal_Ref→Prop} {K:Addr→Prop} (hX:Rd R_seal_Ref a' a nl c l) (I:Inv h (a'::A)) (H:ixP l i K')
    (k: ∀ p x,EAdr a 34 i p→(0≤i∧i<l.length)→hcell h (p.add 0)=some (.int .i64 x.Place)→hcell h (p.add 1)=some (.int .u32 x.Epoch)→lfact .u8 32 x.Digest.toList (p.add 2) h→Inv h (a'::A)→K' x→K p):ixW a nl i 34 K:=
  ix_r hX I (by decide) H fun p vs x he _ hc I hx=>oseal_Ref I fun e I=>k p x he (ixP_lt H) (hc 0 _ (by subst e; rfl)) (hc 1 _ (by subst e; rfl)) (lfact_of hc 2 (by subst e; exact drop_app _ _ (by simp [lumpV_length]))) I hx
theorem elseal_Ref {h:Hp} {A:List At} {a':At} {a:Option Addr} {nl c:Nat} {l:List seal_Ref} {i:Int} {p:Addr} {x:seal_Ref} (hX:Rd R_seal_Ref a' a nl c l) (I:Inv h (a'::A)) (he:EAdr a 34 i p) (hb:0≤i∧i<l.length) (hg:l[i.toNat]? =some x):hcell h (p.add 0)=some (.int .i64 x.Place)∧hcell h (p.add 1)=some (.int .u32 x.Epoch)∧lfact .u8 32 x.Digest.toList (p.add 2) h:=by
  have key:ixW a nl i 34 (fun q=>q=p→hcell h (p.add 0)=some (.int .i64 x.Place)∧hcell h (p.add 1)=some (.int .u32 x.Epoch)∧lfact .u8 32 x.Digest.toList (p.add 2) h):=ixseal_Ref (K':=fun y=>y=x) hX I ⟨hb.1,x,hg,rfl⟩ fun q y _ _ f0 f1 f2 _ e hq=>by
    subst e hq; exact ⟨f0,f1,f2⟩
  obtain ⟨b,e1,_,e3⟩:=key
  obtain ⟨b2,e4,e5⟩:=he
  rw [e1] at e4; cases e4
  exact e3 e5.symm
theorem mseal_Ref {h:Hp} {A:List At} (x:seal_Ref) (I:Inv h A):Inv h (repA R_seal_Ref (([.int .i64 x.Place, .int .u32 x.Epoch]:List Value)++lumpV .u8 32 x.Digest.toList) x::A):=I.addP fun M _=>⟨rfl,rfl⟩
theorem zseal_Ref (h:Hp) (M:List Nat):R_seal_Ref.P h M (([(.int .i64 (0:Int)),(.int .u32 (0:Int))]:List Value)++lumpV .u8 32 (List.replicate 32 0)) (⟨(0:Int),(0:Int),(Vector.replicate 32 (0:Int))⟩:seal_Ref):=rfl
theorem lkseal_Ref {κ:Type} [DecidableEq κ] {Kx:Ky κ} {h:Hp} {A:List At} {m:Option Nat} {o:Option (Array MapEntry × Nat)} {L:Option (List (κ × seal_Ref))} {key:κ} {K:(Hp→Prop)→Int→Int→List Int→Bool→Prop}
    {K':seal_Ref→Bool→Prop} (I:Inv h (mapX Kx R_seal_Ref true m o L::A)) (H:lkP L key (⟨(0:Int),(0:Int),(Vector.replicate 32 (0:Int))⟩:seal_Ref) K') (k: ∀ f x ok,(∀ {h' A'},Inv h' (mapX Kx R_seal_Ref true m o L::A')→f h')→Inv h (mapX Kx R_seal_Ref true m o L::A)→K' x ok→K f x.Place x.Epoch x.Digest.toList ok):
    lkW Kx.kd h m (Kx.enc key) fun f ov=> ∃ y0:Int,∃ y1:Int,∃ y2:List Int,(ov.getD (.agg (([(.int .i64 (0:Int)),(.int .u32 (0:Int))]:List Value)++lumpV .u8 32 (List.replicate 32 0)).toArray)= .agg (([(.int .i64 y0),(.int .u32 y1)]:List Value)++lumpV .u8 32 y2).toArray)∧letB ov.isSome fun ok=>K f y0 y1 y2 ok:=
  lk_r (zvs:=(([(.int .i64 (0:Int)),(.int .u32 (0:Int))]:List Value)++lumpV .u8 32 (List.replicate 32 0))) (z0:=(⟨(0:Int),(0:Int),(Vector.replicate 32 (0:Int))⟩:seal_Ref)) I rfl zseal_Ref fun f ov vs h1 h2 hf J=>oseal_Ref J fun e J2=>by
    subst e
    refine ⟨_,_,_,h1, ?_⟩
    show K f _ _ _ ov.isSome
    rw [h2]; exact k f _ _ hf J2 H
def R_commit_Node : Rp commit_Node where
  n:=2
  P:=fun h M vs x=> ∃ (a0:Option Addr) (c0:Nat),vs=[.int .i64 x.Item, .slice a0 x.Refs.length c0]∧SlE R_seal_Ref h M a0 c0 x.Refs
  len:=by
    rintro _ _ _ x ⟨a0,c0,rfl,h0⟩
    rfl
  one:=by
    rintro _ _ _ x ⟨a0,c0,rfl,h0⟩
    exact all_one rfl
  mono:=by
    rintro _ _ _ _ _ x hL ⟨a0,c0,rfl,h0⟩
    exact ⟨a0,c0,rfl,h0.mono hL⟩
theorem ocommit_Node {h:Hp} {A:List At} {vs:List Value} {x:commit_Node} {G:Prop} (I:Inv h (repA R_commit_Node vs x::A)) (k: ∀ a0 c0,vs=[.int .i64 x.Item, .slice a0 x.Refs.length c0]→Inv h (roS R_seal_Ref a0 x.Refs.length c0 x.Refs::A)→G):G:=by
  obtain ⟨F,M,⟨hF,a0,c0,e,h0⟩,hFM,hn,hlt,HH⟩:=I.turn
  exact k a0 c0 e (HH h [roS R_seal_Ref a0 x.Refs.length c0 x.Refs] [[]] (Keep.refl _ _) (by simp) (by simp) fun M' hL _ _=>⟨⟨rfl,rfl,h0.mono hL⟩,trivial⟩)
theorem ixcommit_Node {h:Hp} {A:List At} {a':At} {a:Option Addr} {nl c:Nat} {l:List commit_Node} {i:Int} {K':commit_Node→Prop} {K:Addr→Prop} (hX:Rd R_commit_Node a' a nl c l) (I:Inv h (a'::A)) (H:ixP l i K')
    (k: ∀ p x a0 c0,EAdr a 2 i p→(0≤i∧i<l.length)→hcell h (p.add 0)=some (.int .i64 x.Item)→hcell h (p.add 1)=some (.slice a0 x.Refs.length c0)→Inv h (roS R_seal_Ref a0 x.Refs.length c0 x.Refs::a'::A)→K' x→K p):ixW a nl i 2 K:=
  ix_r hX I (by decide) H fun p vs x he _ hc I hx=>ocommit_Node I fun a0 c0 e I=>k p x a0 c0 he (ixP_lt H) (hc 0 _ (by subst e; rfl)) (hc 1 _ (by subst e; rfl)) I hx
theorem mcommit_Node {h:Hp} {A:List At} {a0:Option Addr} {n0 c0:Nat} (x:commit_Node) (I:Inv h (roS R_seal_Ref a0 n0 c0 x.Refs::A)):Inv h (repA R_commit_Node ([.int .i64 x.Item, .slice a0 n0 c0]) x::A):=by
  refine I.conv fun F M ⟨hF,e0,h0⟩=>⟨hF,a0,c0,by rw [e0],h0⟩
theorem zcommit_Node (h:Hp) (M:List Nat):R_commit_Node.P h M [(.int .i64 (0:Int)),(.slice none 0 0)] (⟨(0:Int),[]⟩:commit_Node):=⟨none,0,rfl,sle_nil⟩
theorem lkcommit_Node {κ:Type} [DecidableEq κ] {Kx:Ky κ} {h:Hp} {A:List At} {m:Option Nat} {o:Option (Array MapEntry × Nat)} {L:Option (List (κ × commit_Node))} {key:κ} {K:(Hp→Prop)→Int→Sl→Bool→Prop}
    {K':commit_Node→Bool→Prop} (I:Inv h (mapX Kx R_commit_Node true m o L::A)) (H:lkP L key (⟨(0:Int),[]⟩:commit_Node) K') (k: ∀ f a0 c0 x ok,(∀ {h' A'},Inv h' (mapX Kx R_commit_Node true m o L::A')→f h')→Inv h (roS R_seal_Ref a0 x.Refs.length c0 x.Refs::mapX Kx R_commit_Node true m o L::A)→K' x ok→K f x.Item ⟨a0,x.Refs.length,c0⟩ ok):
    lkW Kx.kd h m (Kx.enc key) fun f ov=> ∃ y0:Int,∃ y1:Sl,(ov.getD (.agg [(.int .i64 (0:Int)),(.slice none 0 0)].toArray)= .agg [(.int .i64 y0),(.slice y1.a y1.len y1.cap)].toArray)∧letB ov.isSome fun ok=>K f y0 y1 ok:=
  lk_r (zvs:=[(.int .i64 (0:Int)),(.slice none 0 0)]) (z0:=(⟨(0:Int),[]⟩:commit_Node)) I rfl zcommit_Node fun f ov vs h1 h2 hf J=>ocommit_Node J fun a0 c0 e J2=>by
    subst e
    refine ⟨_,⟨a0,_,c0⟩,h1, ?_⟩
    show K f _ _ ov.isSome
    rw [h2]; exact k f a0 c0 _ _ hf J2 H
structure commit_Change where
  Page:Int
  Bytes:List Int
  deriving DecidableEq
def R_commit_Change : Rp commit_Change where
  n:=2
  P:=fun h M vs x=> ∃ (a0:Option Addr) (c0:Nat),vs=[.int .i64 x.Page, .slice a0 x.Bytes.length c0]∧SlE (rI .u8) h M a0 c0 x.Bytes
  len:=by
    rintro _ _ _ x ⟨a0,c0,rfl,h0⟩
    rfl
  one:=by
    rintro _ _ _ x ⟨a0,c0,rfl,h0⟩
    exact all_one rfl
  mono:=by
    rintro _ _ _ _ _ x hL ⟨a0,c0,rfl,h0⟩
    exact ⟨a0,c0,rfl,h0.mono hL⟩
theorem ocommit_Change {h:Hp} {A:List At} {vs:List Value} {x:commit_Change} {G:Prop} (I:Inv h (repA R_commit_Change vs x::A)) (k: ∀ a0 c0,vs=[.int .i64 x.Page, .slice a0 x.Bytes.length c0]→Inv h (roS (rI .u8) a0 x.Bytes.length c0 x.Bytes::A)→G):G:=by
  obtain ⟨F,M,⟨hF,a0,c0,e,h0⟩,hFM,hn,hlt,HH⟩:=I.turn
  exact k a0 c0 e (HH h [roS (rI .u8) a0 x.Bytes.length c0 x.Bytes] [[]] (Keep.refl _ _) (by simp) (by simp) fun M' hL _ _=>⟨⟨rfl,rfl,h0.mono hL⟩,trivial⟩)
theorem ixcommit_Change {h:Hp} {A:List At} {a':At} {a:Option Addr} {nl c:Nat} {l:List commit_Change} {i:Int} {K':commit_Change→Prop} {K:Addr→Prop} (hX:Rd R_commit_Change a' a nl c l) (I:Inv h (a'::A)) (H:ixP l i K')
    (k: ∀ p x a0 c0,EAdr a 2 i p→(0≤i∧i<l.length)→hcell h (p.add 0)=some (.int .i64 x.Page)→hcell h (p.add 1)=some (.slice a0 x.Bytes.length c0)→Inv h (roS (rI .u8) a0 x.Bytes.length c0 x.Bytes::a'::A)→K' x→K p):ixW a nl i 2 K:=
  ix_r hX I (by decide) H fun p vs x he _ hc I hx=>ocommit_Change I fun a0 c0 e I=>k p x a0 c0 he (ixP_lt H) (hc 0 _ (by subst e; rfl)) (hc 1 _ (by subst e; rfl)) I hx
theorem mcommit_Change {h:Hp} {A:List At} {a0:Option Addr} {n0 c0:Nat} (x:commit_Change) (I:Inv h (roS (rI .u8) a0 n0 c0 x.Bytes::A)):Inv h (repA R_commit_Change ([.int .i64 x.Page, .slice a0 n0 c0]) x::A):=by
  refine I.conv fun F M ⟨hF,e0,h0⟩=>⟨hF,a0,c0,by rw [e0],h0⟩
theorem zcommit_Change (h:Hp) (M:List Nat):R_commit_Change.P h M [(.int .i64 (0:Int)),(.slice none 0 0)] (⟨(0:Int),[]⟩:commit_Change):=⟨none,0,rfl,sle_nil⟩
theorem lkcommit_Change {κ:Type} [DecidableEq κ] {Kx:Ky κ} {h:Hp} {A:List At} {m:Option Nat} {o:Option (Array MapEntry × Nat)} {L:Option (List (κ × commit_Change))} {key:κ} {K:(Hp→Prop)→Int→Sl→Bool→Prop}
    {K':commit_Change→Bool→Prop} (I:Inv h (mapX Kx R_commit_Change true m o L::A)) (H:lkP L key (⟨(0:Int),[]⟩:commit_Change) K') (k: ∀ f a0 c0 x ok,(∀ {h' A'},Inv h' (mapX Kx R_commit_Change true m o L::A')→f h')→Inv h (roS (rI .u8) a0 x.Bytes.length c0 x.Bytes::mapX Kx R_commit_Change true m o L::A)→K' x ok→K f x.Page ⟨a0,x.Bytes.length,c0⟩ ok):
    lkW Kx.kd h m (Kx.enc key) fun f ov=> ∃ y0:Int,∃ y1:Sl,(ov.getD (.agg [(.int .i64 (0:Int)),(.slice none 0 0)].toArray)= .agg [(.int .i64 y0),(.slice y1.a y1.len y1.cap)].toArray)∧letB ov.isSome fun ok=>K f y0 y1 ok:=
  lk_r (zvs:=[(.int .i64 (0:Int)),(.slice none 0 0)]) (z0:=(⟨(0:Int),[]⟩:commit_Change)) I rfl zcommit_Change fun f ov vs h1 h2 hf J=>ocommit_Change J fun a0 c0 e J2=>by
    subst e
    refine ⟨_,⟨a0,_,c0⟩,h1, ?_⟩
    show K f _ _ ov.isSome
    rw [h2]; exact k f a0 c0 _ _ hf J2 H
structure sha_State where
  h:Vector Int 8
  rest:List Int
  n:Int
  deriving DecidableEq
structure seal_Book where
  texts:List (List Int)
  deriving DecidableEq
structure tree_Put where
  Block:Int
  Bytes:List Int
  deriving DecidableEq
structure commit_planner where
  book:Option Addr
  key:Vector Int 32
  epoch:Int
  shape:shape_Shape
  root:seal_Ref
  nodes:Option (List (Int × List seal_Ref))
  puts:List tree_Put
def R_tree_Put : Rp tree_Put where
  n:=2
  P:=fun h M vs x=> ∃ (a0:Option Addr) (c0:Nat),vs=[.int .i64 x.Block, .slice a0 x.Bytes.length c0]∧SlE (rI .u8) h M a0 c0 x.Bytes
  len:=by
    rintro _ _ _ x ⟨a0,c0,rfl,h0⟩
    rfl
  one:=by
    rintro _ _ _ x ⟨a0,c0,rfl,h0⟩
    exact all_one rfl
  mono:=by
    rintro _ _ _ _ _ x hL ⟨a0,c0,rfl,h0⟩
    exact ⟨a0,c0,rfl,h0.mono hL⟩
theorem otree_Put {h:Hp} {A:List At} {vs:List Value} {x:tree_Put} {G:Prop} (I:Inv h (repA R_tree_Put vs x::A)) (k: ∀ a0 c0,vs=[.int .i64 x.Block, .slice a0 x.Bytes.length c0]→Inv h (roS (rI .u8) a0 x.Bytes.length c0 x.Bytes::A)→G):G:=by
  obtain ⟨F,M,⟨hF,a0,c0,e,h0⟩,hFM,hn,hlt,HH⟩:=I.turn
  exact k a0 c0 e (HH h [roS (rI .u8) a0 x.Bytes.length c0 x.Bytes] [[]] (Keep.refl _ _) (by simp) (by simp) fun M' hL _ _=>⟨⟨rfl,rfl,h0.mono hL⟩,trivial⟩)
theorem ixtree_Put {h:Hp} {A:List At} {a':At} {a:Option Addr} {nl c:Nat} {l:List tree_Put} {i:Int} {K':tree_Put→Prop} {K:Addr→Prop} (hX:Rd R_tree_Put a' a nl c l) (I:Inv h (a'::A)) (H:ixP l i K')
    (k: ∀ p x a0 c0,EAdr a 2 i p→(0≤i∧i<l.length)→hcell h (p.add 0)=some (.int .i64 x.Block)→hcell h (p.add 1)=some (.slice a0 x.Bytes.length c0)→Inv h (roS (rI .u8) a0 x.Bytes.length c0 x.Bytes::a'::A)→K' x→K p):ixW a nl i 2 K:=
  ix_r hX I (by decide) H fun p vs x he _ hc I hx=>otree_Put I fun a0 c0 e I=>k p x a0 c0 he (ixP_lt H) (hc 0 _ (by subst e; rfl)) (hc 1 _ (by subst e; rfl)) I hx
theorem mtree_Put {h:Hp} {A:List At} {a0:Option Addr} {n0 c0:Nat} (x:tree_Put) (I:Inv h (roS (rI .u8) a0 n0 c0 x.Bytes::A)):Inv h (repA R_tree_Put ([.int .i64 x.Block, .slice a0 n0 c0]) x::A):=by
  refine I.conv fun F M ⟨hF,e0,h0⟩=>⟨hF,a0,c0,by rw [e0],h0⟩
theorem ztree_Put (h:Hp) (M:List Nat):R_tree_Put.P h M [(.int .i64 (0:Int)),(.slice none 0 0)] (⟨(0:Int),[]⟩:tree_Put):=⟨none,0,rfl,sle_nil⟩
theorem lktree_Put {κ:Type} [DecidableEq κ] {Kx:Ky κ} {h:Hp} {A:List At} {m:Option Nat} {o:Option (Array MapEntry × Nat)} {L:Option (List (κ × tree_Put))} {key:κ} {K:(Hp→Prop)→Int→Sl→Bool→Prop}
    {K':tree_Put→Bool→Prop} (I:Inv h (mapX Kx R_tree_Put true m o L::A)) (H:lkP L key (⟨(0:Int),[]⟩:tree_Put) K') (k: ∀ f a0 c0 x ok,(∀ {h' A'},Inv h' (mapX Kx R_tree_Put true m o L::A')→f h')→Inv h (roS (rI .u8) a0 x.Bytes.length c0 x.Bytes::mapX Kx R_tree_Put true m o L::A)→K' x ok→K f x.Block ⟨a0,x.Bytes.length,c0⟩ ok):
    lkW Kx.kd h m (Kx.enc key) fun f ov=> ∃ y0:Int,∃ y1:Sl,(ov.getD (.agg [(.int .i64 (0:Int)),(.slice none 0 0)].toArray)= .agg [(.int .i64 y0),(.slice y1.a y1.len y1.cap)].toArray)∧letB ov.isSome fun ok=>K f y0 y1 ok:=
  lk_r (zvs:=[(.int .i64 (0:Int)),(.slice none 0 0)]) (z0:=(⟨(0:Int),[]⟩:tree_Put)) I rfl ztree_Put fun f ov vs h1 h2 hf J=>otree_Put J fun a0 c0 e J2=>by
    subst e
    refine ⟨_,⟨a0,_,c0⟩,h1, ?_⟩
    show K f _ _ ov.isSome
    rw [h2]; exact k f a0 c0 _ _ hf J2 H
inductive Obj where
  | seal_Book (x:Pt.seal_Book)
  | commit_planner (x:Pt.commit_planner)
def ob_seal_Book (ρ:Ids) (x:seal_Book) (p:Addr):At:=exA fun a1:Option Addr=>exA fun c1:Nat=>bigA [blk p (ρ.T 39) [.one (.slice a1 x.texts.length c1)],ownS (rS (rI .u8)) a1 x.texts.length c1 x.texts]
theorem op_seal_Book {ρ:Ids} {x:seal_Book} {p:Addr} {h:Hp} {A:List At} (I:Inv h (ob_seal_Book ρ x p::A)): ∃ a1:Option Addr,∃ c1:Nat,Inv h (blk p (ρ.T 39) [.one (.slice a1 x.texts.length c1)]::ownS (rS (rI .u8)) a1 x.texts.length c1 x.texts::A):=by
  unfold ob_seal_Book at I
  obtain ⟨a1,I⟩:=I.exE
  obtain ⟨c1,I⟩:=I.exE
  exact ⟨a1,c1,I.bigE⟩
abbrev at_seal_Book (σ:St Obj) (p:Addr) (K:seal_Book→Prop):Prop:= ∃ x,σ p=some (.seal_Book x)∧K x
def ob_commit_planner (ρ:Ids) (x:commit_planner) (p:Addr):At:=exA fun a4:Option Addr=>exA fun c4:Nat=>exA fun m8:Option Nat=>exA fun o8:Option (Array MapEntry × Nat)=>exA fun a9:Option Addr=>exA fun c9:Nat=>bigA [blk p (ρ.T 20) [.one (.pointer x.book), .vec .u8 32 x.key, .one (.int .u32 x.epoch), .one (.slice a4 x.shape.begins.length c4), .one (.int .i64 x.root.Place), .one (.int .u32 x.root.Epoch), .vec .u8 32 x.root.Digest, .one (.map m8), .one (.slice a9 x.puts.length c9)],roS (rI .i64) a4 x.shape.begins.length c4 x.shape.begins,mapO (kI .i64) R_seal_Ref m8 o8 x.nodes,ownS R_tree_Put a9 x.puts.length c9 x.puts]
theorem op_commit_planner {ρ:Ids} {x:commit_planner} {p:Addr} {h:Hp} {A:List At} (I:Inv h (ob_commit_planner ρ x p::A)): ∃ a4:Option Addr,∃ c4:Nat,∃ m8:Option Nat,∃ o8:Option (Array MapEntry × Nat),∃ a9:Option Addr,∃ c9:Nat,Inv h (blk p (ρ.T 20) [.one (.pointer x.book), .vec .u8 32 x.key, .one (.int .u32 x.epoch), .one (.slice a4 x.shape.begins.length c4), .one (.int .i64 x.root.Place), .one (.int .u32 x.root.Epoch), .vec .u8 32 x.root.Digest, .one (.map m8), .one (.slice a9 x.puts.length c9)]::roS (rI .i64) a4 x.shape.begins.length c4 x.shape.begins::mapO (kI .i64) R_seal_Ref m8 o8 x.nodes::ownS R_tree_Put a9 x.puts.length c9 x.puts::A):=by
  unfold ob_commit_planner at I
  obtain ⟨a4,I⟩:=I.exE
  obtain ⟨c4,I⟩:=I.exE
  obtain ⟨m8,I⟩:=I.exE
  obtain ⟨o8,I⟩:=I.exE
  obtain ⟨a9,I⟩:=I.exE
  obtain ⟨c9,I⟩:=I.exE
  exact ⟨a4,c4,m8,o8,a9,c9,I.bigE⟩
abbrev at_commit_planner (σ:St Obj) (p:Addr) (K:commit_planner→Prop):Prop:= ∃ x,σ p=some (.commit_planner x)∧K x
def obA (ρ:Ids):Obj→Addr→At
  | .seal_Book x,p=>ob_seal_Book ρ x p
  | .commit_planner x,p=>ob_commit_planner ρ x p
theorem cl_seal_Book {ρ:Ids} (x:seal_Book) {p:Addr} {h:Hp} {A:List At} {a1:Option Addr} {c1:Nat} {n1:Nat} (I:Inv h (blk p (ρ.T 39) [.one (.slice a1 n1 c1)]::ownS (rS (rI .u8)) a1 n1 c1 x.texts::A)):Inv h (obA ρ (.seal_Book x) p::A):=by
  obtain rfl:=own_len I.pull1
  exact (Inv.bigI (As:=[blk p (ρ.T 39) [.one (.slice a1 x.texts.length c1)],ownS (rS (rI .u8)) a1 x.texts.length c1 x.texts]) I).conv fun F M H=>⟨a1,c1,H⟩
theorem cl_commit_planner {ρ:Ids} (x:commit_planner) {p:Addr} {h:Hp} {A:List At} {a4:Option Addr} {c4:Nat} {m8:Option Nat} {o8:Option (Array MapEntry × Nat)} {a9:Option Addr} {c9:Nat} {n4:Nat} {n9:Nat} (I:Inv h (blk p (ρ.T 20) [.one (.pointer x.book), .vec .u8 32 x.key, .one (.int .u32 x.epoch), .one (.slice a4 n4 c4), .one (.int .i64 x.root.Place), .one (.int .u32 x.root.Epoch), .vec .u8 32 x.root.Digest, .one (.map m8), .one (.slice a9 n9 c9)]::roS (rI .i64) a4 n4 c4 x.shape.begins::mapO (kI .i64) R_seal_Ref m8 o8 x.nodes::ownS R_tree_Put a9 n9 c9 x.puts::A)):Inv h (obA ρ (.commit_planner x) p::A):=by
  obtain rfl:=ro_len I.pull1
  obtain rfl:=own_len I.pull3
  exact (Inv.bigI (As:=[blk p (ρ.T 20) [.one (.pointer x.book), .vec .u8 32 x.key, .one (.int .u32 x.epoch), .one (.slice a4 x.shape.begins.length c4), .one (.int .i64 x.root.Place), .one (.int .u32 x.root.Epoch), .vec .u8 32 x.root.Digest, .one (.map m8), .one (.slice a9 x.puts.length c9)],roS (rI .i64) a4 x.shape.begins.length c4 x.shape.begins,mapO (kI .i64) R_seal_Ref m8 o8 x.nodes,ownS R_tree_Put a9 x.puts.length c9 x.puts]) I).conv fun F M H=>⟨a4,c4,m8,o8,a9,c9,H⟩
instance obHeads (ρ:Ids):Heads (obA ρ) where
  head:=by
    intro o p h F M H
    cases o with
    | seal_Book x =>
      obtain ⟨_,_,Fs,e,H⟩:=H
      match Fs,e,H with
      | [F0,F1],e,H=>exact head_blk e H.1
    | commit_planner x =>
      obtain ⟨_,_,_,_,_,_,Fs,e,H⟩:=H
      match Fs,e,H with
      | [F0,F1,F2,F3],e,H=>exact head_blk e H.1
namespace shape_New
structure V where
  pages0:Int
  v2:shape_Shape
  v12:Bool
  l4:List Int
  many5:Int
  v23:Bool
structure W where
  p_v2:Addr
  a_v2:Option Addr
  c_v2:Nat
  a_l4:Option Addr
  c_l4:Nat
def v0:V:=⟨0,(⟨[]⟩:shape_Shape),false,[],0,false⟩
def w0:W:=⟨⟨0,0,none⟩,none,0,none,0⟩
abbrev QT:=shape_Shape→Int→Prop
abbrev RT:=Sl→Int→Hp→Prop
def kt (ρ:Ids) (A:List At) (Q':QT) (Q:RT):Prop:=
  ∀ (r0:shape_Shape) (ra0_0:Option Addr) (rc0_0:Nat) (r1:Int) (h':Hp),Inv h' (roS (rI .i64) ra0_0 r0.begins.length rc0_0 r0.begins::A)→Q' r0 r1→Q ⟨ra0_0,r0.begins.length,rc0_0⟩ r1 h'
def I1 (ρ:Ids) (c:V) (w:W) (A:List At) (h:Hp):Prop:=
  Inv h (blk w.p_v2 (ρ.T 11) [.one (.slice w.a_v2 c.v2.begins.length w.c_v2)]::ownS (rI .i64) w.a_v2 c.v2.begins.length w.c_v2 c.v2.begins::A)
def I2 (ρ:Ids) (c:V) (w:W) (A:List At) (h:Hp):Prop:=
  Inv h (blk w.p_v2 (ρ.T 11) [.one (.slice w.a_v2 c.v2.begins.length w.c_v2)]::ownS (rI .i64) w.a_v2 c.v2.begins.length w.c_v2 c.v2.begins::ownS (rI .i64) w.a_l4 c.l4.length w.c_l4 c.l4::A)
abbrev Y2:=Addr→Sl→Int→Hp→Prop
abbrev T2 (S:Y2) (c:V) (w:W) (h:Hp):Prop:=S w.p_v2 ⟨w.a_l4,c.l4.length,w.c_l4⟩ c.many5 h
def k2t (ρ:Ids) (A:List At) (S':V→Prop) (S:Y2):Prop:= ∀ (c:V) (w:W) (h:Hp),I2 ρ c w A h→S' c→T2 S c w h
def I3 (ρ:Ids) (c:V) (w:W) (A:List At) (h:Hp):Prop:=
  Inv h (blk w.p_v2 (ρ.T 11) [.one (.slice w.a_v2 c.v2.begins.length w.c_v2)]::ownS (rI .i64) w.a_v2 c.v2.begins.length w.c_v2 c.v2.begins::ownS (rI .i64) w.a_l4 c.l4.length w.c_l4 c.l4::A)
variable {c:V} {w:W} {Q':QT} {Q:RT} {S2':V→Prop} {S2:Y2}
def K3 (S2:V→Prop) (Q:QT) (c:V):Prop:=
  br c.v23
  ((SlOk c.l4 (0:Int) (c.l4.length:Int))∧
  ixP c.l4 (IntKind.wrap .i64 ((c.l4.length:Int) - (1:Int))) fun x_22=>
  (Bnd ((sub c.l4 (0:Int) (c.l4.length:Int)).length+([(IntKind.wrap .i64 (x_22+(IntKind.wrap .i64 (Int.tdiv (IntKind.wrap .i64 ((IntKind.wrap .i64 (c.many5+(6:Int))) - (1:Int))) (6:Int)))))]).length))∧
  S2 {c with l4:=((sub c.l4 (0:Int) (c.l4.length:Int))++[(IntKind.wrap .i64 (x_22+(IntKind.wrap .i64 (Int.tdiv (IntKind.wrap .i64 ((IntKind.wrap .i64 (c.many5+(6:Int))) - (1:Int))) (6:Int)))))]),many5:=(IntKind.wrap .i64 (Int.tdiv (IntKind.wrap .i64 ((IntKind.wrap .i64 (c.many5+(6:Int))) - (1:Int))) (6:Int)))})
  (Q (⟨c.l4⟩:shape_Shape) (0:Int))
theorem K3_r (I:I3 ρ c w A h) (H:K3 S2' Q' c) (kS2:k2t ρ A S2' S2) (k:kt ρ A Q' Q):Tx.shape_New_K3 ρ S2 Q w.p_v2 ⟨w.a_l4,c.l4.length,w.c_l4⟩ c.many5 c.v23 h:=by
  unfold I3 at I
  unfold Tx.shape_New_K3
  unfold K3 at H
  refine br_r H (fun hb H=> ?_) (fun hb H=> ?_)
  · refine ⟨by decide, ?_⟩
    refine slx_rd rd_own I.pull2 H.1 fun a_20 hr_21=> ?_
    replace H:=H.2
    refine ixI_a rd_own I.pull2 (ixP_keep H) fun p_23 x_22 he_24 hb_25 hc_26 H=> ?_
    obtain ⟨hg_27,H⟩:=H
    refine ldI_r hc_26 ?_
    refine al_r [.one (.int .i64 (IntKind.wrap .i64 (x_22+(IntKind.wrap .i64 (Int.tdiv (IntKind.wrap .i64 ((IntKind.wrap .i64 (c.many5+(6:Int))) - (1:Int))) (6:Int))))))] rfl I fun p_28 h I=> ?_
    replace I:=I.litN (rI .i64)
    replace I:=I.repI (k:= .i64) (IntKind.wrap .i64 (x_22+(IntKind.wrap .i64 (Int.tdiv (IntKind.wrap .i64 ((IntKind.wrap .i64 (c.many5+(6:Int))) - (1:Int))) (6:Int)))))
    replace I:=I.pull1.pull1
    replace I:=I.litC
    replace I:=I.pull1.pull1
    replace I:=Inv.litL (l:=[(IntKind.wrap .i64 (x_22+(IntKind.wrap .i64 (Int.tdiv (IntKind.wrap .i64 ((IntKind.wrap .i64 (c.many5+(6:Int))) - (1:Int))) (6:Int)))))]) I rfl rfl
    refine apF_r hr_21 rd_own I.pull3 (by simp) rfl (by decide) (by decide) H.1 fun a_33 c_34 h I=> ?_
    replace H:=H.2
    replace I:=I.pull2.drop1
    replace I:=I.pull1.drop1
    replace I:=I.pull2.pull2
    exact kS2 {c with l4:=((sub c.l4 (0:Int) (c.l4.length:Int))++[(IntKind.wrap .i64 (x_22+(IntKind.wrap .i64 (Int.tdiv (IntKind.wrap .i64 ((IntKind.wrap .i64 (c.many5+(6:Int))) - (1:Int))) (6:Int)))))]),many5:=(IntKind.wrap .i64 (Int.tdiv (IntKind.wrap .i64 ((IntKind.wrap .i64 (c.many5+(6:Int))) - (1:Int))) (6:Int)))} {w with a_l4:=a_33,c_l4:=c_34} _ I H
  · refine st_r I 0 0 rfl fun h (I : Inv h (blk w.p_v2 (ρ.T 11) [.one (.slice w.a_l4 c.l4.length w.c_l4)] :: _)) => ?_
    refine ldS_r (I.cell 0 0 rfl) ?_
    replace I:=I.pull2.freeze
    replace I:=I.dupR
    replace I:=I.pull1.drop1
    replace I:=I.pull1.drop1
    replace I:=I.pull1.drop1
    exact k (⟨c.l4⟩:shape_Shape) w.a_l4 w.c_l4 (0:Int) _ I H
def B2 (S2:V→Prop) (Q:QT) (c:V):Prop:=
  br (decide (c.many5>(1:Int)))
  (K3 S2 Q {c with v23:=true})
  (K3 S2 Q {c with v23:=((c.l4.length:Int)==(2:Int))})
def L2 (Q:QT) (c:V):Prop:=Lf (fun S=>B2 S Q) c
theorem L2_in {Q:QT} {c:V} (H:B2 (L2 Q) Q c):L2 Q c:=Lf.fold H
theorem B2_r (I:I2 ρ c w A h) (H:B2 S2' Q' c) (kS2:k2t ρ A S2' S2) (k:kt ρ A Q' Q):T2 (Tx.shape_New_B2 ρ S2 Q) c w h:=by
  unfold I2 at I
  unfold T2 Tx.shape_New_B2
  unfold B2 at H
  refine br_r H (fun hb H=> ?_) (fun hb H=> ?_)
  · replace I := I.pull2.pull2.pull2
    exact K3_r (c:= {c with v23:=true}) (w:=w) I H kS2 k
  · replace I := I.pull2.pull2.pull2
    exact K3_r (c:= {c with v23:=((c.l4.length:Int)==(2:Int))}) (w:=w) I H kS2 k
theorem L2_r (I:I2 ρ c w A h) (H:L2 Q' c) (k:kt ρ A Q' Q):T2 (Tx.shape_New_L2 ρ Q) c w h:=by
  refine Lf.ind H (fun v=> ∀ (w:W) (h:Hp),I2 ρ v w A h→T2 (Tx.shape_New_L2 ρ Q) v w h) ?_ w h I
  rintro c S hS HB w h I
  refine Tx.shape_New_L2_in _ _ _ _ _ _ ?_
  try simp only [nrm_v]
  exact B2_r (c:=c) (w:=w) I HB (fun c w h I H=>hS _ H w h I) k
def K1 (Q:QT) (c:V):Prop:=
  br c.v12
  (Q (⟨([]:List Int)⟩:shape_Shape) (1:Int))
  (L2 Q {c with l4:=[(0:Int),c.pages0],many5:=c.pages0})
theorem K1_r (I:I1 ρ c w A h) (H:K1 Q' c) (k:kt ρ A Q' Q):Tx.shape_New_K1 ρ Q c.pages0 w.p_v2 c.v12 h:=by
  unfold I1 at I
  unfold Tx.shape_New_K1
  unfold K1 at H
  refine br_r H (fun hb H=> ?_) (fun hb H=> ?_)
  · refine st_r I 0 0 rfl fun h (I : Inv h (blk w.p_v2 (ρ.T 11) [.one (.slice none 0 0)] :: _)) => ?_
    refine ldS_r (I.cell 0 0 rfl) ?_
    replace I:=I.nilR (rI .i64)
    replace I:=I.pull1.drop1
    replace I:=I.pull1.drop1
    exact k (⟨([]:List Int)⟩:shape_Shape) none 0 (1:Int) _ I H
  · refine al_r [.one (.int .i64 (0 : Int)), .one (.int .i64 c.pages0)] rfl I fun p_8 h I => ?_
    replace I:=I.litN (rI .i64)
    replace I:=I.repI (k:= .i64) c.pages0
    replace I:=I.pull1.pull1
    replace I:=I.litC
    replace I:=I.repI (k:= .i64) (0:Int)
    replace I:=I.pull1.pull1
    replace I:=I.litC
    replace I:=I.pull1.pull1
    replace I:=Inv.litL (l:=[(0:Int),c.pages0]) I rfl rfl
    replace I:=I.pull2.pull2
    exact L2_r (c:= {c with l4:=[(0:Int),c.pages0],many5:=c.pages0}) (w:= {w with a_l4:=(some p_8),c_l4:=2}) I H k
end shape_New
def shape_New (pages0:Int) (Q:shape_New.QT):Prop:=
  br (decide (pages0<(1:Int)))
  (shape_New.K1 Q {shape_New.v0 with pages0:=pages0,v2:=(⟨([]:List Int)⟩:shape_Shape),v12:=true})
  (shape_New.K1 Q {shape_New.v0 with pages0:=pages0,v2:=(⟨([]:List Int)⟩:shape_Shape),v12:=(decide (pages0>(216:Int)))})
theorem shape_New_r {pages0:Int} {Q':shape_New.QT} {Q:shape_New.RT} (I:Inv h (A)) (H:shape_New pages0 Q')
    (k:shape_New.kt ρ A Q' Q):Tx.shape_New ρ pages0 h Q:=by
  unfold Tx.shape_New
  unfold shape_New at H
  refine al_r [.one (.slice none 0 0)] rfl I fun p_1 h I=> ?_
  refine br_r H (fun hb H=> ?_) (fun hb H=> ?_)
  · replace I := I.nilO (rI .i64)
    replace I:=I.pull1
    exact shape_New.K1_r (c:= {shape_New.v0 with pages0:=pages0,v2:=(⟨([]:List Int)⟩:shape_Shape),v12:=true}) (w:= {shape_New.w0 with p_v2:=p_1,a_v2:=none,c_v2:=0}) I H k
  · replace I := I.nilO (rI .i64)
    replace I:=I.pull1
    exact shape_New.K1_r (c:= {shape_New.v0 with pages0:=pages0,v2:=(⟨([]:List Int)⟩:shape_Shape),v12:=(decide (pages0>(216:Int)))}) (w:= {shape_New.w0 with p_v2:=p_1,a_v2:=none,c_v2:=0}) I H k
namespace carlingref12_New
structure V where
  pages0:Int
  v2:carlingref12_Shape
  v16:Bool
  s4:carlingref12_Shape
  i5:Int
  from6:Int
  many7:Int
  level8:Int
  v41:Bool
  n9:Int
  k10:Int
structure W where
  p_v2:Addr
  a_v2_1:Option Addr
  c_v2_1:Nat
  a_v2_2:Option Addr
  c_v2_2:Nat
  p_s4:Addr
  a_s4_1:Option Addr
  c_s4_1:Nat
  a_s4_2:Option Addr
  c_s4_2:Nat
def v0:V:=⟨0,(⟨(0:Int),[],[]⟩:carlingref12_Shape),false,(⟨(0:Int),[],[]⟩:carlingref12_Shape),0,0,0,0,false,0,0⟩
def w0:W:=⟨⟨0,0,none⟩,none,0,none,0,⟨0,0,none⟩,none,0,none,0⟩
abbrev QT:=carlingref12_Shape→Int→Prop
abbrev RT:=Int→Sl→Sl→Int→Hp→Prop
def kt (ρ:Ids) (A:List At) (Q':QT) (Q:RT):Prop:=
  ∀ (r0:carlingref12_Shape) (ra0_1:Option Addr) (rc0_1:Nat) (ra0_2:Option Addr) (rc0_2:Nat) (r1:Int) (h':Hp),Inv h' (roS (rI .i64) ra0_1 r0.Level.length rc0_1 r0.Level::roS (rI .i64) ra0_2 r0.First.length rc0_2 r0.First::A)→Q' r0 r1→Q r0.P ⟨ra0_1,r0.Level.length,rc0_1⟩ ⟨ra0_2,r0.First.length,rc0_2⟩ r1 h'
def I1 (ρ:Ids) (c:V) (w:W) (A:List At) (h:Hp):Prop:=
  Inv h (blk w.p_v2 (ρ.T 12) [.one (.int .i64 c.v2.P), .one (.slice w.a_v2_1 c.v2.Level.length w.c_v2_1), .one (.slice w.a_v2_2 c.v2.First.length w.c_v2_2)]::ownS (rI .i64) w.a_v2_1 c.v2.Level.length w.c_v2_1 c.v2.Level::ownS (rI .i64) w.a_v2_2 c.v2.First.length w.c_v2_2 c.v2.First::A)
def I2 (ρ:Ids) (c:V) (w:W) (A:List At) (h:Hp):Prop:=
  Inv h (blk w.p_v2 (ρ.T 12) [.one (.int .i64 c.v2.P), .one (.slice w.a_v2_1 c.v2.Level.length w.c_v2_1), .one (.slice w.a_v2_2 c.v2.First.length w.c_v2_2)]::ownS (rI .i64) w.a_v2_1 c.v2.Level.length w.c_v2_1 c.v2.Level::ownS (rI .i64) w.a_v2_2 c.v2.First.length w.c_v2_2 c.v2.First::blk w.p_s4 (ρ.T 12) [.one (.int .i64 c.s4.P), .one (.slice w.a_s4_1 c.s4.Level.length w.c_s4_1), .one (.slice w.a_s4_2 c.s4.First.length w.c_s4_2)]::ownS (rI .i64) w.a_s4_1 c.s4.Level.length w.c_s4_1 c.s4.Level::ownS (rI .i64) w.a_s4_2 c.s4.First.length w.c_s4_2 c.s4.First::A)
abbrev Y2:=Int→Addr→Addr→Int→Hp→Prop
abbrev T2 (S:Y2) (c:V) (w:W) (h:Hp):Prop:=S c.pages0 w.p_v2 w.p_s4 c.i5 h
def k2t (ρ:Ids) (A:List At) (S':V→Prop) (S:Y2):Prop:= ∀ (c:V) (w:W) (h:Hp),I2 ρ c w A h→S' c→T2 S c w h
def I3 (ρ:Ids) (c:V) (w:W) (A:List At) (h:Hp):Prop:=
  Inv h (blk w.p_v2 (ρ.T 12) [.one (.int .i64 c.v2.P), .one (.slice w.a_v2_1 c.v2.Level.length w.c_v2_1), .one (.slice w.a_v2_2 c.v2.First.length w.c_v2_2)]::ownS (rI .i64) w.a_v2_1 c.v2.Level.length w.c_v2_1 c.v2.Level::ownS (rI .i64) w.a_v2_2 c.v2.First.length w.c_v2_2 c.v2.First::blk w.p_s4 (ρ.T 12) [.one (.int .i64 c.s4.P), .one (.slice w.a_s4_1 c.s4.Level.length w.c_s4_1), .one (.slice w.a_s4_2 c.s4.First.length w.c_s4_2)]::ownS (rI .i64) w.a_s4_1 c.s4.Level.length w.c_s4_1 c.s4.Level::ownS (rI .i64) w.a_s4_2 c.s4.First.length w.c_s4_2 c.s4.First::A)
abbrev Y3:=Addr→Addr→Int→Int→Int→Hp→Prop
abbrev T3 (S:Y3) (c:V) (w:W) (h:Hp):Prop:=S w.p_v2 w.p_s4 c.from6 c.many7 c.level8 h
def k3t (ρ:Ids) (A:List At) (S':V→Prop) (S:Y3):Prop:= ∀ (c:V) (w:W) (h:Hp),I3 ρ c w A h→S' c→T3 S c w h
def I4 (ρ:Ids) (c:V) (w:W) (A:List At) (h:Hp):Prop:=
  Inv h (blk w.p_v2 (ρ.T 12) [.one (.int .i64 c.v2.P), .one (.slice w.a_v2_1 c.v2.Level.length w.c_v2_1), .one (.slice w.a_v2_2 c.v2.First.length w.c_v2_2)]::ownS (rI .i64) w.a_v2_1 c.v2.Level.length w.c_v2_1 c.v2.Level::ownS (rI .i64) w.a_v2_2 c.v2.First.length w.c_v2_2 c.v2.First::blk w.p_s4 (ρ.T 12) [.one (.int .i64 c.s4.P), .one (.slice w.a_s4_1 c.s4.Level.length w.c_s4_1), .one (.slice w.a_s4_2 c.s4.First.length w.c_s4_2)]::ownS (rI .i64) w.a_s4_1 c.s4.Level.length w.c_s4_1 c.s4.Level::ownS (rI .i64) w.a_s4_2 c.s4.First.length w.c_s4_2 c.s4.First::A)
def I5 (ρ:Ids) (c:V) (w:W) (A:List At) (h:Hp):Prop:=
  Inv h (blk w.p_v2 (ρ.T 12) [.one (.int .i64 c.v2.P), .one (.slice w.a_v2_1 c.v2.Level.length w.c_v2_1), .one (.slice w.a_v2_2 c.v2.First.length w.c_v2_2)]::ownS (rI .i64) w.a_v2_1 c.v2.Level.length w.c_v2_1 c.v2.Level::ownS (rI .i64) w.a_v2_2 c.v2.First.length w.c_v2_2 c.v2.First::blk w.p_s4 (ρ.T 12) [.one (.int .i64 c.s4.P), .one (.slice w.a_s4_1 c.s4.Level.length w.c_s4_1), .one (.slice w.a_s4_2 c.s4.First.length w.c_s4_2)]::ownS (rI .i64) w.a_s4_1 c.s4.Level.length w.c_s4_1 c.s4.Level::ownS (rI .i64) w.a_s4_2 c.s4.First.length w.c_s4_2 c.s4.First::A)
abbrev Y5:=Addr→Addr→Int→Int→Int→Int→Int→Hp→Prop
abbrev T5 (S:Y5) (c:V) (w:W) (h:Hp):Prop:=S w.p_v2 w.p_s4 c.from6 c.many7 c.level8 c.n9 c.k10 h
def k5t (ρ:Ids) (A:List At) (S':V→Prop) (S:Y5):Prop:= ∀ (c:V) (w:W) (h:Hp),I5 ρ c w A h→S' c→T5 S c w h
variable {c:V} {w:W} {Q':QT} {Q:RT} {S2' S3' S5':V→Prop} {S2:Y2} {S3:Y3} {S5:Y5}
def B5 (S3:V→Prop) (S5:V→Prop) (Q:QT) (c:V):Prop:=
  br (decide (c.k10<c.many7))
  ((Bnd (c.s4.Level.length+([c.level8]).length))∧
  (Bnd (c.s4.First.length+([(IntKind.wrap .i64 (c.from6+c.k10))]).length))∧
  S5 {c with s4:=(⟨c.s4.P,(c.s4.Level++[c.level8]),(c.s4.First++[(IntKind.wrap .i64 (c.from6+c.k10))])⟩:carlingref12_Shape),n9:=(IntKind.wrap .i64 (c.n9+(1:Int))),k10:=(IntKind.wrap .i64 (c.k10+(6:Int)))})
  (S3 {c with from6:=(IntKind.wrap .i64 (c.from6+c.many7)),many7:=c.n9,level8:=(IntKind.wrap .i64 (c.level8+(1:Int)))})
def L5 (S3:V→Prop) (Q:QT) (c:V):Prop:=Lf (fun S=>B5 S3 S Q) c
theorem L5_in (S3:V→Prop) {Q:QT} {c:V} (H:B5 S3 (L5 S3 Q) Q c):L5 S3 Q c:=Lf.fold H
theorem B5_r (I:I5 ρ c w A h) (H:B5 S3' S5' Q' c) (kS3:k3t ρ A S3' S3) (kS5:k5t ρ A S5' S5) (k:kt ρ A Q' Q):T5 (Tx.carlingref12_New_B5 ρ S3 S5 Q) c w h:=by
  unfold I5 at I
  unfold T5 Tx.carlingref12_New_B5
  unfold B5 at H
  refine br_r H (fun hb H=> ?_) (fun hb H=> ?_)
  · refine ldS_r (I.pull3.cell 1 1 rfl) ?_
    refine al_r [.one (.int .i64 c.level8)] rfl I fun p_58 h I=> ?_
    replace I:=I.litN (rI .i64)
    replace I:=I.repI (k:= .i64) c.level8
    replace I:=I.pull1.pull1
    replace I:=I.litC
    replace I:=I.pull1.pull1
    replace I:=Inv.litL (l:=[c.level8]) I rfl rfl
    refine ap_r rd_own I.pull5 rfl (by decide) (by decide) H.1 fun a_63 c_64 h I=> ?_
    replace H:=H.2
    replace I:=I.pull1.drop1
    refine st_r I.pull4 1 1 rfl fun h (I:Inv h (blk w.p_s4 (ρ.T 12) [.one (.int .i64 c.s4.P), .one (.slice a_63 (c.s4.Level++[c.level8]).length c_64), .one (.slice w.a_s4_2 c.s4.First.length w.c_s4_2)]::_))=> ?_
    refine ldS_r (I.cell 2 2 rfl) ?_
    refine al_r [.one (.int .i64 (IntKind.wrap .i64 (c.from6+c.k10)))] rfl I fun p_66 h I=> ?_
    replace I:=I.litN (rI .i64)
    replace I:=I.repI (k:= .i64) (IntKind.wrap .i64 (c.from6+c.k10))
    replace I:=I.pull1.pull1
    replace I:=I.litC
    replace I:=I.pull1.pull1
    replace I:=Inv.litL (l:=[(IntKind.wrap .i64 (c.from6+c.k10))]) I rfl rfl
    refine ap_r rd_own I.pull6 rfl (by decide) (by decide) H.1 fun a_71 c_72 h I=> ?_
    replace H:=H.2
    replace I:=I.pull1.drop1
    refine st_r I.pull1 2 2 rfl fun h (I:Inv h (blk w.p_s4 (ρ.T 12) [.one (.int .i64 c.s4.P), .one (.slice a_63 (c.s4.Level++[c.level8]).length c_64), .one (.slice a_71 (c.s4.First++[(IntKind.wrap .i64 (c.from6+c.k10))]).length c_72)]::_))=> ?_
    replace I:=I.pull1.pull2.pull2.pull5.pull5.pull5
    exact kS5 {c with s4:=(⟨c.s4.P,(c.s4.Level++[c.level8]),(c.s4.First++[(IntKind.wrap .i64 (c.from6+c.k10))])⟩:carlingref12_Shape),n9:=(IntKind.wrap .i64 (c.n9+(1:Int))),k10:=(IntKind.wrap .i64 (c.k10+(6:Int)))} {w with a_s4_1:=a_63,c_s4_1:=c_64,a_s4_2:=a_71,c_s4_2:=c_72} _ I H
  · replace I := I.pull5.pull5.pull5.pull5.pull5.pull5
    exact kS3 {c with from6:=(IntKind.wrap .i64 (c.from6+c.many7)),many7:=c.n9,level8:=(IntKind.wrap .i64 (c.level8+(1:Int)))} w _ I H
theorem L5_r (I:I5 ρ c w A h) (H:L5 S3' Q' c) (kS3:k3t ρ A S3' S3) (k:kt ρ A Q' Q):T5 (Tx.carlingref12_New_L5 ρ S3 Q) c w h:=by
  refine Lf.ind H (fun v=> ∀ (w:W) (h:Hp),I5 ρ v w A h→T5 (Tx.carlingref12_New_L5 ρ S3 Q) v w h) ?_ w h I
  rintro c S hS HB w h I
  refine Tx.carlingref12_New_L5_in _ _ _ _ _ _ _ _ _ _ _ ?_
  try simp only [nrm_v]
  exact B5_r (c:=c) (w:=w) I HB kS3 (fun c w h I H=>hS _ H w h I) k
def K4 (S3:V→Prop) (Q:QT) (c:V):Prop:=
  br c.v41
  (L5 S3 Q {c with n9:=(0:Int),k10:=(0:Int)})
  (Q c.s4 (0:Int))
theorem K4_r (I:I4 ρ c w A h) (H:K4 S3' Q' c) (kS3:k3t ρ A S3' S3) (k:kt ρ A Q' Q):Tx.carlingref12_New_K4 ρ S3 Q w.p_v2 w.p_s4 c.from6 c.many7 c.level8 c.v41 h:=by
  unfold I4 at I
  unfold Tx.carlingref12_New_K4
  unfold K4 at H
  refine br_r H (fun hb H=> ?_) (fun hb H=> ?_)
  · replace I := I.pull5.pull5.pull5.pull5.pull5.pull5
    exact L5_r (c:= {c with n9:=(0:Int),k10:=(0:Int)}) (w:=w) I H kS3 k
  · refine ldI_r (I.pull3.cell 0 0 rfl) ?_
    refine ldS_r (I.pull3.cell 1 1 rfl) ?_
    refine ldS_r (I.pull3.cell 2 2 rfl) ?_
    refine stA_r I 0 3 0 [.one (.int .i64 c.s4.P), .one (.slice w.a_s4_1 c.s4.Level.length w.c_s4_1), .one (.slice w.a_s4_2 c.s4.First.length w.c_s4_2)] rfl rfl rfl (by first | exact all_segs rfl | exact all_one (by simp [segs,Seg.cells,allOne,allOne_append,allOne_lump,Value.oneCell'])) fun h (I:Inv h (blk w.p_v2 (ρ.T 12) [.one (.int .i64 c.s4.P), .one (.slice w.a_s4_1 c.s4.Level.length w.c_s4_1), .one (.slice w.a_s4_2 c.s4.First.length w.c_s4_2)]::_))=> ?_
    refine ldI_r (I.cell 0 0 rfl) ?_
    refine ldS_r (I.cell 1 1 rfl) ?_
    refine ldS_r (I.cell 2 2 rfl) ?_
    replace I:=I.pull4.freeze
    replace I:=I.dupR
    replace I:=I.pull6.freeze
    replace I:=I.dupR
    replace I:=I.pull1.drop1
    replace I:=I.pull2.drop1
    replace I:=I.pull2.drop1
    replace I:=I.pull2.drop1
    replace I:=I.pull2.drop1
    replace I:=I.pull2.drop1
    replace I:=I.pull1
    exact k c.s4 w.a_s4_1 w.c_s4_1 w.a_s4_2 w.c_s4_2 (0:Int) _ I H
def B3 (S3:V→Prop) (Q:QT) (c:V):Prop:=
  br (c.level8==(1:Int))
  (K4 S3 Q {c with v41:=true})
  (K4 S3 Q {c with v41:=(decide (c.many7>(1:Int)))})
def L3 (Q:QT) (c:V):Prop:=Lf (fun S=>B3 S Q) c
theorem L3_in {Q:QT} {c:V} (H:B3 (L3 Q) Q c):L3 Q c:=Lf.fold H
theorem B3_r (I:I3 ρ c w A h) (H:B3 S3' Q' c) (kS3:k3t ρ A S3' S3) (k:kt ρ A Q' Q):T3 (Tx.carlingref12_New_B3 ρ S3 Q) c w h:=by
  unfold I3 at I
  unfold T3 Tx.carlingref12_New_B3
  unfold B3 at H
  refine br_r H (fun hb H=> ?_) (fun hb H=> ?_)
  · replace I := I.pull5.pull5.pull5.pull5.pull5.pull5
    exact K4_r (c:= {c with v41:=true}) (w:=w) I H kS3 k
  · replace I := I.pull5.pull5.pull5.pull5.pull5.pull5
    exact K4_r (c:= {c with v41:=(decide (c.many7>(1:Int)))}) (w:=w) I H kS3 k
theorem L3_r (I:I3 ρ c w A h) (H:L3 Q' c) (k:kt ρ A Q' Q):T3 (Tx.carlingref12_New_L3 ρ Q) c w h:=by
  refine Lf.ind H (fun v=> ∀ (w:W) (h:Hp),I3 ρ v w A h→T3 (Tx.carlingref12_New_L3 ρ Q) v w h) ?_ w h I
  rintro c S hS HB w h I
  refine Tx.carlingref12_New_L3_in _ _ _ _ _ _ _ _ ?_
  try simp only [nrm_v]
  exact B3_r (c:=c) (w:=w) I HB (fun c w h I H=>hS _ H w h I) k
def B2 (S2:V→Prop) (Q:QT) (c:V):Prop:=
  br (decide (c.i5<c.pages0))
  ((Bnd (c.s4.Level.length+([(0:Int)]).length))∧
  (Bnd (c.s4.First.length+([(-1:Int)]).length))∧
  S2 {c with s4:=(⟨c.s4.P,(c.s4.Level++[(0:Int)]),(c.s4.First++[(-1:Int)])⟩:carlingref12_Shape),i5:=(IntKind.wrap .i64 (c.i5+(1:Int)))})
  (L3 Q {c with from6:=(0:Int),many7:=c.pages0,level8:=(1:Int)})
def L2 (Q:QT) (c:V):Prop:=Lf (fun S=>B2 S Q) c
theorem L2_in {Q:QT} {c:V} (H:B2 (L2 Q) Q c):L2 Q c:=Lf.fold H
theorem B2_r (I:I2 ρ c w A h) (H:B2 S2' Q' c) (kS2:k2t ρ A S2' S2) (k:kt ρ A Q' Q):T2 (Tx.carlingref12_New_B2 ρ S2 Q) c w h:=by
  unfold I2 at I
  unfold T2 Tx.carlingref12_New_B2
  unfold B2 at H
  refine br_r H (fun hb H=> ?_) (fun hb H=> ?_)
  · refine ldS_r (I.pull3.cell 1 1 rfl) ?_
    refine al_r [.one (.int .i64 (0:Int))] rfl I fun p_22 h I=> ?_
    replace I:=I.litN (rI .i64)
    replace I:=I.repI (k:= .i64) (0:Int)
    replace I:=I.pull1.pull1
    replace I:=I.litC
    replace I:=I.pull1.pull1
    replace I:=Inv.litL (l:=[(0:Int)]) I rfl rfl
    refine ap_r rd_own I.pull5 rfl (by decide) (by decide) H.1 fun a_27 c_28 h I=> ?_
    replace H:=H.2
    replace I:=I.pull1.drop1
    refine st_r I.pull4 1 1 rfl fun h (I:Inv h (blk w.p_s4 (ρ.T 12) [.one (.int .i64 c.s4.P), .one (.slice a_27 (c.s4.Level++[(0:Int)]).length c_28), .one (.slice w.a_s4_2 c.s4.First.length w.c_s4_2)]::_))=> ?_
    refine ldS_r (I.cell 2 2 rfl) ?_
    refine al_r [.one (.int .i64 (-1:Int))] rfl I fun p_30 h I=> ?_
    replace I:=I.litN (rI .i64)
    replace I:=I.repI (k:= .i64) (-1:Int)
    replace I:=I.pull1.pull1
    replace I:=I.litC
    replace I:=I.pull1.pull1
    replace I:=Inv.litL (l:=[(-1:Int)]) I rfl rfl
    refine ap_r rd_own I.pull6 rfl (by decide) (by decide) H.1 fun a_35 c_36 h I=> ?_
    replace H:=H.2
    replace I:=I.pull1.drop1
    refine st_r I.pull1 2 2 rfl fun h (I:Inv h (blk w.p_s4 (ρ.T 12) [.one (.int .i64 c.s4.P), .one (.slice a_27 (c.s4.Level++[(0:Int)]).length c_28), .one (.slice a_35 (c.s4.First++[(-1:Int)]).length c_36)]::_))=> ?_
    replace I:=I.pull1.pull2.pull2.pull5.pull5.pull5
    exact kS2 {c with s4:=(⟨c.s4.P,(c.s4.Level++[(0:Int)]),(c.s4.First++[(-1:Int)])⟩:carlingref12_Shape),i5:=(IntKind.wrap .i64 (c.i5+(1:Int)))} {w with a_s4_1:=a_27,c_s4_1:=c_28,a_s4_2:=a_35,c_s4_2:=c_36} _ I H
  · replace I := I.pull5.pull5.pull5.pull5.pull5.pull5
    exact L3_r (c:= {c with from6:=(0:Int),many7:=c.pages0,level8:=(1:Int)}) (w:=w) I H k
theorem L2_r (I:I2 ρ c w A h) (H:L2 Q' c) (k:kt ρ A Q' Q):T2 (Tx.carlingref12_New_L2 ρ Q) c w h:=by
  refine Lf.ind H (fun v=> ∀ (w:W) (h:Hp),I2 ρ v w A h→T2 (Tx.carlingref12_New_L2 ρ Q) v w h) ?_ w h I
  rintro c S hS HB w h I
  refine Tx.carlingref12_New_L2_in _ _ _ _ _ _ _ ?_
  try simp only [nrm_v]
  exact B2_r (c:=c) (w:=w) I HB (fun c w h I H=>hS _ H w h I) k
def K1 (Q:QT) (c:V):Prop:=
  br c.v16
  (Q (⟨(0:Int),([]:List Int),([]:List Int)⟩:carlingref12_Shape) (1:Int))
  (L2 Q {c with s4:=(⟨c.pages0,([]:List Int),([]:List Int)⟩:carlingref12_Shape),i5:=(0:Int)})
theorem K1_r (I:I1 ρ c w A h) (H:K1 Q' c) (k:kt ρ A Q' Q):Tx.carlingref12_New_K1 ρ Q c.pages0 w.p_v2 c.v16 h:=by
  unfold I1 at I
  unfold Tx.carlingref12_New_K1
  unfold K1 at H
  refine br_r H (fun hb H=> ?_) (fun hb H=> ?_)
  · refine stA_r I 0 3 0 [.one (.int .i64 (0 : Int)), .one (.slice none 0 0), .one (.slice none 0 0)] rfl rfl rfl (by first | exact all_segs rfl | exact all_one (by simp [segs, Seg.cells, allOne, allOne_append, allOne_lump, Value.oneCell'])) fun h (I : Inv h (blk w.p_v2 (ρ.T 12) [.one (.int .i64 (0 : Int)), .one (.slice none 0 0), .one (.slice none 0 0)] :: _)) => ?_
    refine ldI_r (I.cell 0 0 rfl) ?_
    refine ldS_r (I.cell 1 1 rfl) ?_
    refine ldS_r (I.cell 2 2 rfl) ?_
    replace I:=I.nilR (rI .i64)
    replace I:=I.nilR (rI .i64)
    replace I:=I.pull2.drop1
    replace I:=I.pull2.drop1
    replace I:=I.pull2.drop1
    replace I:=I.pull1
    exact k (⟨(0:Int),([]:List Int),([]:List Int)⟩:carlingref12_Shape) none 0 none 0 (1:Int) _ I H
  · refine al_r [.one (.int .i64 (0 : Int)), .one (.slice none 0 0), .one (.slice none 0 0)] rfl I fun p_12 h I => ?_
    refine stA_r I 0 3 0 [.one (.int .i64 c.pages0), .one (.slice none 0 0), .one (.slice none 0 0)] rfl rfl rfl (by first | exact all_segs rfl | exact all_one (by simp [segs,Seg.cells,allOne,allOne_append,allOne_lump,Value.oneCell'])) fun h (I:Inv h (blk p_12 (ρ.T 12) [.one (.int .i64 c.pages0), .one (.slice none 0 0), .one (.slice none 0 0)]::_))=> ?_
    replace I:=I.nilO (rI .i64)
    replace I:=I.nilO (rI .i64)
    replace I:=I.pull1.pull2.pull5.pull5.pull5
    exact L2_r (c:= {c with s4:=(⟨c.pages0,([]:List Int),([]:List Int)⟩:carlingref12_Shape),i5:=(0:Int)}) (w:= {w with p_s4:=p_12,a_s4_1:=none,c_s4_1:=0,a_s4_2:=none,c_s4_2:=0}) I H k
end carlingref12_New
def carlingref12_New (pages0:Int) (Q:carlingref12_New.QT):Prop:=
  br (decide (pages0<(1:Int)))
  (carlingref12_New.K1 Q {carlingref12_New.v0 with pages0:=pages0,v2:=(⟨(0:Int),([]:List Int),([]:List Int)⟩:carlingref12_Shape),v16:=true})
  (carlingref12_New.K1 Q {carlingref12_New.v0 with pages0:=pages0,v2:=(⟨(0:Int),([]:List Int),([]:List Int)⟩:carlingref12_Shape),v16:=(decide (pages0>(216:Int)))})
theorem carlingref12_New_r {pages0:Int} {Q':carlingref12_New.QT} {Q:carlingref12_New.RT} (I:Inv h (A)) (H:carlingref12_New pages0 Q')
    (k:carlingref12_New.kt ρ A Q' Q):Tx.carlingref12_New ρ pages0 h Q:=by
  unfold Tx.carlingref12_New
  unfold carlingref12_New at H
  refine al_r [.one (.int .i64 (0:Int)), .one (.slice none 0 0), .one (.slice none 0 0)] rfl I fun p_1 h I=> ?_
  refine br_r H (fun hb H=> ?_) (fun hb H=> ?_)
  · replace I := I.nilO (rI .i64)
    replace I:=I.nilO (rI .i64)
    replace I:=I.pull1.pull2
    exact carlingref12_New.K1_r (c:= {carlingref12_New.v0 with pages0:=pages0,v2:=(⟨(0:Int),([]:List Int),([]:List Int)⟩:carlingref12_Shape),v16:=true}) (w:= {carlingref12_New.w0 with p_v2:=p_1,a_v2_1:=none,c_v2_1:=0,a_v2_2:=none,c_v2_2:=0}) I H k
  · replace I := I.nilO (rI .i64)
    replace I:=I.nilO (rI .i64)
    replace I:=I.pull1.pull2
    exact carlingref12_New.K1_r (c:= {carlingref12_New.v0 with pages0:=pages0,v2:=(⟨(0:Int),([]:List Int),([]:List Int)⟩:carlingref12_Shape),v16:=(decide (pages0>(216:Int)))}) (w:= {carlingref12_New.w0 with p_v2:=p_1,a_v2_1:=none,c_v2_1:=0,a_v2_2:=none,c_v2_2:=0}) I H k
namespace carlinglaw16_far
structure V where
  l0:List carlingref16_Node
  c1:List carlingref16_Change
  v16:Bool
  v17:List carlingref16_Node
  v18:Int
  v19:Int
  v28:List carlingref16_Change
  v29:Int
  v30:Int
structure W where
  a_l0:Option Addr
  c_l0:Nat
  a_c1:Option Addr
  c_c1:Nat
  a_v17:Option Addr
  c_v17:Nat
  a_v28:Option Addr
  c_v28:Nat
def v0:V:=⟨[],[],false,[],0,0,[],0,0⟩
def w0:W:=⟨none,0,none,0,none,0,none,0⟩
abbrev QT:=Bool→Prop
abbrev RT:=Bool→Hp→Prop
def kt (ρ:Ids) (X_l0:At) (X_c1:At) (A:List At) (Q':QT) (Q:RT):Prop:=
  ∀ (r0:Bool) (h':Hp),Inv h' (X_l0::X_c1::A)→Q' r0→Q r0 h'
def I1 (ρ:Ids) (X_l0:At) (X_c1:At) (c:V) (w:W) (A:List At) (h:Hp):Prop:=
  Rd R_carlingref16_Node X_l0 w.a_l0 c.l0.length w.c_l0 c.l0∧Rd R_carlingref16_Change X_c1 w.a_c1 c.c1.length w.c_c1 c.c1∧Inv h (X_l0::X_c1::A)
def I2 (ρ:Ids) (X_l0:At) (X_c1:At) (c:V) (w:W) (A:List At) (h:Hp):Prop:=
  Rd R_carlingref16_Change X_c1 w.a_c1 c.c1.length w.c_c1 c.c1∧Rd R_carlingref16_Node X_l0 w.a_v17 c.v17.length w.c_v17 c.v17∧Inv h (X_l0::X_c1::A)
abbrev Y2:=Sl→Sl→Int→Int→Hp→Prop
abbrev T2 (X_l0:At) (X_c1:At) (S:Y2) (c:V) (w:W) (h:Hp):Prop:=S ⟨w.a_c1,c.c1.length,w.c_c1⟩ ⟨w.a_v17,c.v17.length,w.c_v17⟩ c.v18 c.v19 h
def k2t (ρ:Ids) (X_l0:At) (X_c1:At) (A:List At) (S':V→Prop) (S:Y2):Prop:= ∀ (c:V) (w:W) (h:Hp),I2 ρ X_l0 X_c1 c w A h→S' c→T2 X_l0 X_c1 S c w h
def I3 (ρ:Ids) (X_l0:At) (X_c1:At) (c:V) (w:W) (A:List At) (h:Hp):Prop:=
  Rd R_carlingref16_Change X_c1 w.a_v28 c.v28.length w.c_v28 c.v28∧Inv h (X_l0::X_c1::A)
abbrev Y3:=Sl→Int→Int→Hp→Prop
abbrev T3 (X_l0:At) (X_c1:At) (S:Y3) (c:V) (w:W) (h:Hp):Prop:=S ⟨w.a_v28,c.v28.length,w.c_v28⟩ c.v29 c.v30 h
def k3t (ρ:Ids) (X_l0:At) (X_c1:At) (A:List At) (S':V→Prop) (S:Y3):Prop:= ∀ (c:V) (w:W) (h:Hp),I3 ρ X_l0 X_c1 c w A h→S' c→T3 X_l0 X_c1 S c w h
variable {X_l0 X_c1:At} {c:V} {w:W} {Q':QT} {Q:RT} {S2' S3':V→Prop} {S2:Y2} {S3:Y3}
def B3 (S3:V→Prop) (Q:QT) (c:V):Prop:=
  br (decide (c.v30<c.v29))
  (ixP c.v28 c.v30 fun x_20=>
  br (decide ((x_20.Bytes.length:Int)>(600:Int)))
  (Q true)
  (S3 {c with v30:=(IntKind.wrap .i64 (c.v30+(1:Int)))}))
  (Q false)
def L3 (Q:QT) (c:V):Prop:=Lf (fun S=>B3 S Q) c
theorem L3_in {Q:QT} {c:V} (H:B3 (L3 Q) Q c):L3 Q c:=Lf.fold H
theorem B3_r (I:I3 ρ X_l0 X_c1 c w A h) (H:B3 S3' Q' c) (kS3:k3t ρ X_l0 X_c1 A S3' S3) (k:kt ρ X_l0 X_c1 A Q' Q):T3 X_l0 X_c1 (Tx.carlinglaw16_far_B3 ρ S3 Q) c w h:=by
  obtain ⟨hX_v28,I⟩:=I
  unfold T3 Tx.carlinglaw16_far_B3
  unfold B3 at H
  refine br_r H (fun hb H=> ?_) (fun hb H=> ?_)
  · refine ixcarlingref16_Change hX_v28 I.pull1 H fun p_21 x_20 a_26 c_27 he_22 hb_23 hc_24 hc_25 I H => ?_
    refine ldI_r hc_24 ?_
    refine ldS_r hc_25 ?_
    refine al_r [.one (.int .i64 (0:Int)), .one (.slice none 0 0)] rfl I fun p_29 h I=> ?_
    refine stA_r I 0 2 0 [.one (.int .i64 x_20.Page), .one (.slice a_26 x_20.Bytes.length c_27)] rfl rfl rfl (by first | exact all_segs rfl | exact all_one (by simp [segs,Seg.cells,allOne,allOne_append,allOne_lump,Value.oneCell'])) fun h (I:Inv h (blk p_29 (ρ.T 13) [.one (.int .i64 x_20.Page), .one (.slice a_26 x_20.Bytes.length c_27)]::_))=> ?_
    refine ldS_r (I.cell 1 1 rfl) ?_
    refine br_r H (fun hb H=> ?_) (fun hb H=> ?_)
    · replace I := I.drop1
      replace I:=I.drop1
      replace I:=I.pull1
      exact k true _ I H
    · replace I := I.drop1
      replace I:=I.drop1
      replace I:=I.pull1
      exact kS3 {c with v30:=(IntKind.wrap .i64 (c.v30+(1:Int)))} w _ ⟨hX_v28,I⟩ H
  · replace I := I.pull1.pull1
    exact k false _ I H
theorem L3_r (I:I3 ρ X_l0 X_c1 c w A h) (H:L3 Q' c) (k:kt ρ X_l0 X_c1 A Q' Q):T3 X_l0 X_c1 (Tx.carlinglaw16_far_L3 ρ Q) c w h:=by
  refine Lf.ind H (fun v=> ∀ (w:W) (h:Hp),I3 ρ X_l0 X_c1 v w A h→T3 X_l0 X_c1 (Tx.carlinglaw16_far_L3 ρ Q) v w h) ?_ w h I
  rintro c S hS HB w h I
  refine Tx.carlinglaw16_far_L3_in _ _ _ _ _ _ ?_
  try simp only [nrm_v]
  exact B3_r (c:=c) (w:=w) I HB (fun c w h I H=>hS _ H w h I) k
def B2 (S2:V→Prop) (Q:QT) (c:V):Prop:=
  br (decide (c.v19<c.v18))
  (ixP c.v17 c.v19 fun x_7=>
  br (decide ((x_7.Refs.length:Int)>(20:Int)))
  (Q true)
  (S2 {c with v19:=(IntKind.wrap .i64 (c.v19+(1:Int)))}))
  (L3 Q {c with v28:=c.c1,v29:=(c.c1.length:Int),v30:=(0:Int)})
def L2 (Q:QT) (c:V):Prop:=Lf (fun S=>B2 S Q) c
theorem L2_in {Q:QT} {c:V} (H:B2 (L2 Q) Q c):L2 Q c:=Lf.fold H
theorem B2_r (I:I2 ρ X_l0 X_c1 c w A h) (H:B2 S2' Q' c) (kS2:k2t ρ X_l0 X_c1 A S2' S2) (k:kt ρ X_l0 X_c1 A Q' Q):T2 X_l0 X_c1 (Tx.carlinglaw16_far_B2 ρ S2 Q) c w h:=by
  obtain ⟨hX_c1,hX_v17,I⟩:=I
  unfold T2 Tx.carlinglaw16_far_B2
  unfold B2 at H
  refine br_r H (fun hb H=> ?_) (fun hb H=> ?_)
  · refine ixcarlingref16_Node hX_v17 I H fun p_8 x_7 a_13 c_14 he_9 hb_10 hc_11 hc_12 I H => ?_
    refine ldI_r hc_11 ?_
    refine ldS_r hc_12 ?_
    refine al_r [.one (.int .i64 (0:Int)), .one (.slice none 0 0)] rfl I fun p_16 h I=> ?_
    refine stA_r I 0 2 0 [.one (.int .i64 x_7.Item), .one (.slice a_13 x_7.Refs.length c_14)] rfl rfl rfl (by first | exact all_segs rfl | exact all_one (by simp [segs,Seg.cells,allOne,allOne_append,allOne_lump,Value.oneCell'])) fun h (I:Inv h (blk p_16 (ρ.T 15) [.one (.int .i64 x_7.Item), .one (.slice a_13 x_7.Refs.length c_14)]::_))=> ?_
    refine ldS_r (I.cell 1 1 rfl) ?_
    refine br_r H (fun hb H=> ?_) (fun hb H=> ?_)
    · replace I := I.drop1
      replace I:=I.drop1
      replace I:=I.pull1.pull1
      exact k true _ I H
    · replace I := I.drop1
      replace I:=I.drop1
      replace I:=I.pull1.pull1
      exact kS2 {c with v19:=(IntKind.wrap .i64 (c.v19+(1:Int)))} w _ ⟨hX_c1,hX_v17,I⟩ H
  · replace I := I.pull1.pull1
    exact L3_r (c:= {c with v28:=c.c1,v29:=(c.c1.length:Int),v30:=(0:Int)}) (w:= {w with a_v28:=w.a_c1,c_v28:=w.c_c1}) ⟨hX_c1,I⟩ H k
theorem L2_r (I:I2 ρ X_l0 X_c1 c w A h) (H:L2 Q' c) (k:kt ρ X_l0 X_c1 A Q' Q):T2 X_l0 X_c1 (Tx.carlinglaw16_far_L2 ρ Q) c w h:=by
  refine Lf.ind H (fun v=> ∀ (w:W) (h:Hp),I2 ρ X_l0 X_c1 v w A h→T2 X_l0 X_c1 (Tx.carlinglaw16_far_L2 ρ Q) v w h) ?_ w h I
  rintro c S hS HB w h I
  refine Tx.carlinglaw16_far_L2_in _ _ _ _ _ _ _ ?_
  try simp only [nrm_v]
  exact B2_r (c:=c) (w:=w) I HB (fun c w h I H=>hS _ H w h I) k
def K1 (Q:QT) (c:V):Prop:=
  br c.v16
  (Q true)
  (L2 Q {c with v17:=c.l0,v18:=(c.l0.length:Int),v19:=(0:Int)})
theorem K1_r (I:I1 ρ X_l0 X_c1 c w A h) (H:K1 Q' c) (k:kt ρ X_l0 X_c1 A Q' Q):Tx.carlinglaw16_far_K1 ρ Q ⟨w.a_l0,c.l0.length,w.c_l0⟩ ⟨w.a_c1,c.c1.length,w.c_c1⟩ c.v16 h:=by
  obtain ⟨hX_l0,hX_c1,I⟩:=I
  unfold Tx.carlinglaw16_far_K1
  unfold K1 at H
  refine br_r H (fun hb H=> ?_) (fun hb H=> ?_)
  · replace I := I.pull1.pull1
    exact k true _ I H
  · replace I := I.pull1.pull1
    exact L2_r (c:= {c with v17:=c.l0,v18:=(c.l0.length:Int),v19:=(0:Int)}) (w:= {w with a_v17:=w.a_l0,c_v17:=w.c_l0}) ⟨hX_c1,hX_l0,I⟩ H k
end carlinglaw16_far
def carlinglaw16_far (l0:List carlingref16_Node) (c1:List carlingref16_Change) (Q:carlinglaw16_far.QT):Prop:=
  br (decide ((l0.length:Int)>(60:Int)))
  (carlinglaw16_far.K1 Q {carlinglaw16_far.v0 with l0:=l0,c1:=c1,v16:=true})
  (carlinglaw16_far.K1 Q {carlinglaw16_far.v0 with l0:=l0,c1:=c1,v16:=(decide ((c1.length:Int)>(20:Int)))})
theorem carlinglaw16_far_r {l0:List carlingref16_Node} {c1:List carlingref16_Change} {a_l0:Option Addr} {c_l0:Nat} {n_l0:Nat} {X_l0:At} {a_c1:Option Addr} {c_c1:Nat} {n_c1:Nat} {X_c1:At} {Q':carlinglaw16_far.QT} {Q:carlinglaw16_far.RT} (hX_l0:Rd R_carlingref16_Node X_l0 a_l0 n_l0 c_l0 l0) (hX_c1:Rd R_carlingref16_Change X_c1 a_c1 n_c1 c_c1 c1) (I:Inv h (X_l0::X_c1::A)) (H:carlinglaw16_far l0 c1 Q')
    (k:carlinglaw16_far.kt ρ X_l0 X_c1 A Q' Q):Tx.carlinglaw16_far ρ ⟨a_l0,n_l0,c_l0⟩ ⟨a_c1,n_c1,c_c1⟩ h Q:=by
  obtain rfl:=rd_len hX_l0 I
  obtain rfl:=rd_len hX_c1 I.pull1
  unfold Tx.carlinglaw16_far
  unfold carlinglaw16_far at H
  refine br_r H (fun hb H=> ?_) (fun hb H=> ?_)
  · replace I := I.pull1.pull1
    exact carlinglaw16_far.K1_r (c:= {carlinglaw16_far.v0 with l0:=l0,c1:=c1,v16:=true}) (w:= {carlinglaw16_far.w0 with a_l0:=a_l0,c_l0:=c_l0,a_c1:=a_c1,c_c1:=c_c1}) ⟨hX_l0,hX_c1,I⟩ H k
  · replace I := I.pull1.pull1
    exact carlinglaw16_far.K1_r (c:= {carlinglaw16_far.v0 with l0:=l0,c1:=c1,v16:=(decide ((c1.length:Int)>(20:Int)))}) (w:= {carlinglaw16_far.w0 with a_l0:=a_l0,c_l0:=c_l0,a_c1:=a_c1,c_c1:=c_c1}) ⟨hX_l0,hX_c1,I⟩ H k
def shape_Shape_Levels (s0:shape_Shape) (Q:Int→Prop):Prop:=
  Q (if (0:Int)>(IntKind.wrap .i64 ((s0.begins.length:Int) - (1:Int))) then (0:Int) else (IntKind.wrap .i64 ((s0.begins.length:Int) - (1:Int))))
theorem shape_Shape_Levels_r {s0:shape_Shape} {a_s0_0:Option Addr} {c_s0_0:Nat} {n_s0_0:Nat} {Q':Int→Prop} {Q:Int→Hp→Prop} (I:Inv h (roS (rI .i64) a_s0_0 n_s0_0 c_s0_0 s0.begins::A)) (H:shape_Shape_Levels s0 Q')
    (k: ∀ (r0:Int) (h':Hp),Inv h' (A)→Q' r0→Q r0 h'):Tx.shape_Shape_Levels ρ ⟨a_s0_0,n_s0_0,c_s0_0⟩ h Q:=by
  obtain rfl:=ro_len I
  unfold Tx.shape_Shape_Levels
  unfold shape_Shape_Levels at H
  refine al_r [.one (.slice a_s0_0 s0.begins.length c_s0_0)] rfl I fun p_2 h I=> ?_
  refine ldS_r (I.cell 0 0 rfl) ?_
  replace I:=I.drop1
  replace I:=I.drop1
  exact k (if (0:Int)>(IntKind.wrap .i64 ((s0.begins.length:Int) - (1:Int))) then (0:Int) else (IntKind.wrap .i64 ((s0.begins.length:Int) - (1:Int)))) _ I H
namespace shape_Shape_Level
structure V where
  item1:Int
  s2:shape_Shape
  v9:Int
  v10:Int
structure W where
  p_s2:Addr
  a_s2:Option Addr
  c_s2:Nat
def v0:V:=⟨0,(⟨[]⟩:shape_Shape),0,0⟩
def w0:W:=⟨⟨0,0,none⟩,none,0⟩
abbrev QT:=Int→Prop
abbrev RT:=Int→Hp→Prop
def kt (ρ:Ids) (A:List At) (Q':QT) (Q:RT):Prop:=
  ∀ (r0:Int) (h':Hp),Inv h' (A)→Q' r0→Q r0 h'
def I1 (ρ:Ids) (c:V) (w:W) (A:List At) (h:Hp):Prop:=
  Inv h (blk w.p_s2 (ρ.T 11) [.one (.slice w.a_s2 c.s2.begins.length w.c_s2)]::roS (rI .i64) w.a_s2 c.s2.begins.length w.c_s2 c.s2.begins::A)
abbrev Y1:=Int→Addr→Int→Int→Hp→Prop
abbrev T1 (S:Y1) (c:V) (w:W) (h:Hp):Prop:=S c.item1 w.p_s2 c.v9 c.v10 h
def k1t (ρ:Ids) (A:List At) (S':V→Prop) (S:Y1):Prop:= ∀ (c:V) (w:W) (h:Hp),I1 ρ c w A h→S' c→T1 S c w h
variable {c:V} {w:W} {Q':QT} {Q:RT} {S1':V→Prop} {S1:Y1}
def B1 (S1:V→Prop) (Q:QT) (c:V):Prop:=
  br (decide (c.v10<c.v9))
  (ixP c.s2.begins (IntKind.wrap .i64 (c.v10+(1:Int))) fun x_9=>
  br (decide (c.item1<x_9))
  (Q c.v10)
  (S1 {c with v10:=(IntKind.wrap .i64 (c.v10+(1:Int)))}))
  (Q (-1:Int))
def L1 (Q:QT) (c:V):Prop:=Lf (fun S=>B1 S Q) c
theorem L1_in {Q:QT} {c:V} (H:B1 (L1 Q) Q c):L1 Q c:=Lf.fold H
theorem B1_r (I:I1 ρ c w A h) (H:B1 S1' Q' c) (kS1:k1t ρ A S1' S1) (k:kt ρ A Q' Q):T1 (Tx.shape_Shape_Level_B1 ρ S1 Q) c w h:=by
  unfold I1 at I
  unfold T1 Tx.shape_Shape_Level_B1
  unfold B1 at H
  refine br_r H (fun hb H=> ?_) (fun hb H=> ?_)
  · refine ldS_r (I.cell 0 0 rfl) ?_
    refine ixI_a rd_ro I.pull1 (ixP_keep H) fun p_10 x_9 he_11 hb_12 hc_13 H=> ?_
    obtain ⟨hg_14,H⟩:=H
    refine ldI_r hc_13 ?_
    refine br_r H (fun hb H=> ?_) (fun hb H=> ?_)
    · replace I := I.drop1
      replace I:=I.drop1
      exact k c.v10 _ I H
    · replace I := I.pull1.dupR
      replace I:=I.pull1.drop1
      replace I:=I.pull1
      exact kS1 {c with v10:=(IntKind.wrap .i64 (c.v10+(1:Int)))} w _ I H
  · replace I := I.drop1
    replace I:=I.drop1
    exact k (-1:Int) _ I H
theorem L1_r (I:I1 ρ c w A h) (H:L1 Q' c) (k:kt ρ A Q' Q):T1 (Tx.shape_Shape_Level_L1 ρ Q) c w h:=by
  refine Lf.ind H (fun v=> ∀ (w:W) (h:Hp),I1 ρ v w A h→T1 (Tx.shape_Shape_Level_L1 ρ Q) v w h) ?_ w h I
  rintro c S hS HB w h I
  refine Tx.shape_Shape_Level_L1_in _ _ _ _ _ _ _ ?_
  try simp only [nrm_v]
  exact B1_r (c:=c) (w:=w) I HB (fun c w h I H=>hS _ H w h I) k
end shape_Shape_Level
def shape_Shape_Level (s0:shape_Shape) (item1:Int) (Q:shape_Shape_Level.QT):Prop:=
  br (decide (item1<(0:Int)))
  (Q (-1:Int))
  (shape_Shape_Levels s0 fun r_5=>
  shape_Shape_Level.L1 Q {shape_Shape_Level.v0 with item1:=item1,s2:=s0,v9:=r_5,v10:=(0:Int)})
theorem shape_Shape_Level_r {s0:shape_Shape} {item1:Int} {a_s0_0:Option Addr} {c_s0_0:Nat} {n_s0_0:Nat} {Q':shape_Shape_Level.QT} {Q:shape_Shape_Level.RT} (I:Inv h (roS (rI .i64) a_s0_0 n_s0_0 c_s0_0 s0.begins::A)) (H:shape_Shape_Level s0 item1 Q')
    (k:shape_Shape_Level.kt ρ A Q' Q):Tx.shape_Shape_Level ρ ⟨a_s0_0,n_s0_0,c_s0_0⟩ item1 h Q:=by
  obtain rfl:=ro_len I
  unfold Tx.shape_Shape_Level
  unfold shape_Shape_Level at H
  refine al_r [.one (.slice a_s0_0 s0.begins.length c_s0_0)] rfl I fun p_2 h I=> ?_
  refine br_r H (fun hb H=> ?_) (fun hb H=> ?_)
  · replace I := I.drop1
    replace I:=I.drop1
    exact k (-1:Int) _ I H
  · refine ldS_r (I.cell 0 0 rfl) ?_
    replace I:=I.pull1.dupR
    try simp only [nrm_v]
    refine shape_Shape_Levels_r (s0:=s0) I H fun r_5 h I H=> ?_
    replace I:=I.dupR
    replace I:=I.pull1.drop1
    replace I:=I.pull1
    exact shape_Shape_Level.L1_r (c:= {shape_Shape_Level.v0 with item1:=item1,s2:=s0,v9:=r_5,v10:=(0:Int)}) (w:= {shape_Shape_Level.w0 with p_s2:=p_2,a_s2:=a_s0_0,c_s2:=c_s0_0}) I H k
def shape_Shape_Items (s0:shape_Shape) (Q:Int→Prop):Prop:=
  br ((s0.begins.length:Int)==(0:Int))
  (Q (0:Int))
  (ixP s0.begins (IntKind.wrap .i64 ((s0.begins.length:Int) - (1:Int))) fun x_4=>
  Q x_4)
theorem shape_Shape_Items_r {s0:shape_Shape} {a_s0_0:Option Addr} {c_s0_0:Nat} {n_s0_0:Nat} {Q':Int→Prop} {Q:Int→Hp→Prop} (I:Inv h (roS (rI .i64) a_s0_0 n_s0_0 c_s0_0 s0.begins::A)) (H:shape_Shape_Items s0 Q')
    (k: ∀ (r0:Int) (h':Hp),Inv h' (A)→Q' r0→Q r0 h'):Tx.shape_Shape_Items ρ ⟨a_s0_0,n_s0_0,c_s0_0⟩ h Q:=by
  obtain rfl:=ro_len I
  unfold Tx.shape_Shape_Items
  unfold shape_Shape_Items at H
  refine al_r [.one (.slice a_s0_0 s0.begins.length c_s0_0)] rfl I fun p_2 h I=> ?_
  refine ldS_r (I.cell 0 0 rfl) ?_
  refine br_r H (fun hb H=> ?_) (fun hb H=> ?_)
  · replace I := I.drop1
    replace I:=I.drop1
    exact k (0:Int) _ I H
  · refine ldS_r (I.cell 0 0 rfl) ?_
    refine ldS_r (I.cell 0 0 rfl) ?_
    refine ixI_a rd_ro I.pull1 (ixP_keep H) fun p_5 x_4 he_6 hb_7 hc_8 H=> ?_
    obtain ⟨hg_9,H⟩:=H
    refine ldI_r hc_8 ?_
    replace I:=I.drop1
    replace I:=I.drop1
    exact k x_4 _ I H
def shape_Shape_Root (s0:shape_Shape) (Q:Int→Prop):Prop:=
  shape_Shape_Items s0 fun r_5=>
  Q (IntKind.wrap .i64 (r_5+(-1:Int)))
theorem shape_Shape_Root_r {s0:shape_Shape} {a_s0_0:Option Addr} {c_s0_0:Nat} {n_s0_0:Nat} {Q':Int→Prop} {Q:Int→Hp→Prop} (I:Inv h (roS (rI .i64) a_s0_0 n_s0_0 c_s0_0 s0.begins::A)) (H:shape_Shape_Root s0 Q')
    (k: ∀ (r0:Int) (h':Hp),Inv h' (A)→Q' r0→Q r0 h'):Tx.shape_Shape_Root ρ ⟨a_s0_0,n_s0_0,c_s0_0⟩ h Q:=by
  obtain rfl:=ro_len I
  unfold Tx.shape_Shape_Root
  unfold shape_Shape_Root at H
  refine al_r [.one (.slice a_s0_0 s0.begins.length c_s0_0)] rfl I fun p_2 h I=> ?_
  refine ldS_r (I.cell 0 0 rfl) ?_
  replace I:=I.pull1.dupR
  try simp only [nrm_v]
  refine shape_Shape_Items_r (s0:=s0) I H fun r_5 h I H=> ?_
  replace I:=I.drop1
  replace I:=I.drop1
  exact k (IntKind.wrap .i64 (r_5+(-1:Int))) _ I H
namespace shape_Shape_Parent
structure V where
  item1:Int
  s2:shape_Shape
  level7:Int
  v19:Bool
structure W where
  p_s2:Addr
  a_s2:Option Addr
  c_s2:Nat
def v0:V:=⟨0,(⟨[]⟩:shape_Shape),0,false⟩
def w0:W:=⟨⟨0,0,none⟩,none,0⟩
abbrev QT:=Int→Int→Bool→Prop
abbrev RT:=Int→Int→Bool→Hp→Prop
def kt (ρ:Ids) (A:List At) (Q':QT) (Q:RT):Prop:=
  ∀ (r0:Int) (r1:Int) (r2:Bool) (h':Hp),Inv h' (A)→Q' r0 r1 r2→Q r0 r1 r2 h'
def I1 (ρ:Ids) (c:V) (w:W) (A:List At) (h:Hp):Prop:=
  Inv h (blk w.p_s2 (ρ.T 11) [.one (.slice w.a_s2 c.s2.begins.length w.c_s2)]::roS (rI .i64) w.a_s2 c.s2.begins.length w.c_s2 c.s2.begins::A)
variable {c:V} {w:W} {Q':QT} {Q:RT}
def K1 (Q:QT) (c:V):Prop:=
  br c.v19
  (Q (0:Int) (0:Int) false)
  (ixP c.s2.begins c.level7 fun x_12=>
  ixP c.s2.begins (IntKind.wrap .i64 (c.level7+(1:Int))) fun x_18=>
  Q (IntKind.wrap .i64 (x_18+(IntKind.wrap .i64 (Int.tdiv (IntKind.wrap .i64 (c.item1 - x_12)) (6:Int))))) (Int.tmod (IntKind.wrap .i64 (c.item1 - x_12)) (6:Int)) true)
theorem K1_r (I:I1 ρ c w A h) (H:K1 Q' c) (k:kt ρ A Q' Q):Tx.shape_Shape_Parent_K1 ρ Q c.item1 w.p_s2 c.level7 c.v19 h:=by
  unfold I1 at I
  unfold Tx.shape_Shape_Parent_K1
  unfold K1 at H
  refine br_r H (fun hb H=> ?_) (fun hb H=> ?_)
  · replace I := I.drop1
    replace I:=I.drop1
    exact k (0:Int) (0:Int) false _ I H
  · refine ldS_r (I.cell 0 0 rfl) ?_
    refine ixI_a rd_ro I.pull1 (ixP_keep H) fun p_13 x_12 he_14 hb_15 hc_16 H=> ?_
    obtain ⟨hg_17,H⟩:=H
    refine ldI_r hc_16 ?_
    refine ldS_r (I.cell 0 0 rfl) ?_
    refine ixI_a rd_ro I.pull1 (ixP_keep H) fun p_19 x_18 he_20 hb_21 hc_22 H=> ?_
    obtain ⟨hg_23,H⟩:=H
    refine ldI_r hc_22 ?_
    refine ⟨by decide, ?_⟩
    refine ⟨by decide, ?_⟩
    replace I:=I.drop1
    replace I:=I.drop1
    exact k (IntKind.wrap .i64 (x_18+(IntKind.wrap .i64 (Int.tdiv (IntKind.wrap .i64 (c.item1 - x_12)) (6:Int))))) (Int.tmod (IntKind.wrap .i64 (c.item1 - x_12)) (6:Int)) true _ I H
end shape_Shape_Parent
def shape_Shape_Parent (s0:shape_Shape) (item1:Int) (Q:shape_Shape_Parent.QT):Prop:=
  shape_Shape_Level s0 item1 fun r_5=>
  br (decide (r_5<(0:Int)))
  (shape_Shape_Parent.K1 Q {shape_Shape_Parent.v0 with item1:=item1,s2:=s0,level7:=r_5,v19:=true})
  (shape_Shape_Root s0 fun r_8=>
  shape_Shape_Parent.K1 Q {shape_Shape_Parent.v0 with item1:=item1,s2:=s0,level7:=r_5,v19:=(item1==r_8)})
theorem shape_Shape_Parent_r {s0:shape_Shape} {item1:Int} {a_s0_0:Option Addr} {c_s0_0:Nat} {n_s0_0:Nat} {Q':shape_Shape_Parent.QT} {Q:shape_Shape_Parent.RT} (I:Inv h (roS (rI .i64) a_s0_0 n_s0_0 c_s0_0 s0.begins::A)) (H:shape_Shape_Parent s0 item1 Q')
    (k:shape_Shape_Parent.kt ρ A Q' Q):Tx.shape_Shape_Parent ρ ⟨a_s0_0,n_s0_0,c_s0_0⟩ item1 h Q:=by
  obtain rfl:=ro_len I
  unfold Tx.shape_Shape_Parent
  unfold shape_Shape_Parent at H
  refine al_r [.one (.slice a_s0_0 s0.begins.length c_s0_0)] rfl I fun p_2 h I=> ?_
  refine ldS_r (I.cell 0 0 rfl) ?_
  replace I:=I.pull1.dupR
  try simp only [nrm_v]
  refine shape_Shape_Level_r (s0:=s0) (item1:=item1) I H fun r_5 h I H=> ?_
  refine br_r H (fun hb H=> ?_) (fun hb H=> ?_)
  · replace I := I.dupR
    replace I:=I.pull1.drop1
    replace I:=I.pull1
    exact shape_Shape_Parent.K1_r (c:= {shape_Shape_Parent.v0 with item1:=item1,s2:=s0,level7:=r_5,v19:=true}) (w:= {shape_Shape_Parent.w0 with p_s2:=p_2,a_s2:=a_s0_0,c_s2:=c_s0_0}) I H k
  · refine ldS_r (I.pull1.cell 0 0 rfl) ?_
    replace I:=I.dupR
    try simp only [nrm_v]
    refine shape_Shape_Root_r (s0:=s0) I H fun r_8 h I H=> ?_
    replace I:=I.dupR
    replace I:=I.pull1.drop1
    replace I:=I.pull1
    exact shape_Shape_Parent.K1_r (c:= {shape_Shape_Parent.v0 with item1:=item1,s2:=s0,level7:=r_5,v19:=(item1==r_8)}) (w:= {shape_Shape_Parent.w0 with p_s2:=p_2,a_s2:=a_s0_0,c_s2:=c_s0_0}) I H k
namespace shape_Shape_Path
structure V where
  s2:shape_Shape
  l5:List Int
  p6:Int
  ok8:Bool
structure W where
  p_s2:Addr
  a_s2:Option Addr
  c_s2:Nat
  a_l5:Option Addr
  c_l5:Nat
def v0:V:=⟨(⟨[]⟩:shape_Shape),[],0,false⟩
def w0:W:=⟨⟨0,0,none⟩,none,0,none,0⟩
abbrev QT:=(List Int)→Prop
abbrev RT:=Sl→Hp→Prop
def kt (ρ:Ids) (A:List At) (Q':QT) (Q:RT):Prop:=
  ∀ (r0:List Int) (ra0:Option Addr) (rc0:Nat) (h':Hp),Inv h' (ownS (rI .i64) ra0 r0.length rc0 r0::A)→Q' r0→Q ⟨ra0,r0.length,rc0⟩ h'
def I1 (ρ:Ids) (c:V) (w:W) (A:List At) (h:Hp):Prop:=
  Inv h (blk w.p_s2 (ρ.T 11) [.one (.slice w.a_s2 c.s2.begins.length w.c_s2)]::roS (rI .i64) w.a_s2 c.s2.begins.length w.c_s2 c.s2.begins::ownS (rI .i64) w.a_l5 c.l5.length w.c_l5 c.l5::A)
abbrev Y1:=Addr→Sl→Int→Bool→Hp→Prop
abbrev T1 (S:Y1) (c:V) (w:W) (h:Hp):Prop:=S w.p_s2 ⟨w.a_l5,c.l5.length,w.c_l5⟩ c.p6 c.ok8 h
def k1t (ρ:Ids) (A:List At) (S':V→Prop) (S:Y1):Prop:= ∀ (c:V) (w:W) (h:Hp),I1 ρ c w A h→S' c→T1 S c w h
variable {c:V} {w:W} {Q':QT} {Q:RT} {S1':V→Prop} {S1:Y1}
def B1 (S1:V→Prop) (Q:QT) (c:V):Prop:=
  br c.ok8
  ((Bnd (c.l5.length+([c.p6]).length))∧
  shape_Shape_Parent c.s2 c.p6 fun r_29 r_30 r_31=>
  S1 {c with l5:=(c.l5++[c.p6]),p6:=r_29,ok8:=r_31})
  (Q c.l5)
def L1 (Q:QT) (c:V):Prop:=Lf (fun S=>B1 S Q) c
theorem L1_in {Q:QT} {c:V} (H:B1 (L1 Q) Q c):L1 Q c:=Lf.fold H
theorem B1_r (I:I1 ρ c w A h) (H:B1 S1' Q' c) (kS1:k1t ρ A S1' S1) (k:kt ρ A Q' Q):T1 (Tx.shape_Shape_Path_B1 ρ S1 Q) c w h:=by
  unfold I1 at I
  unfold T1 Tx.shape_Shape_Path_B1
  unfold B1 at H
  refine br_r H (fun hb H=> ?_) (fun hb H=> ?_)
  · refine al_r [.one (.int .i64 c.p6)] rfl I fun p_20 h I => ?_
    replace I:=I.litN (rI .i64)
    replace I:=I.repI (k:= .i64) c.p6
    replace I:=I.pull1.pull1
    replace I:=I.litC
    replace I:=I.pull1.pull1
    replace I:=Inv.litL (l:=[c.p6]) I rfl rfl
    refine ap_r rd_own I.pull3 rfl (by decide) (by decide) H.1 fun a_25 c_26 h I=> ?_
    replace H:=H.2
    replace I:=I.pull1.drop1
    refine ldS_r (I.pull1.cell 0 0 rfl) ?_
    replace I:=I.pull2.dupR
    try simp only [nrm_v]
    refine shape_Shape_Parent_r (s0:=c.s2) (item1:=c.p6) I H fun r_29 r_30 r_31 h I H=> ?_
    replace I:=I.dupR
    replace I:=I.pull1.drop1
    replace I:=I.pull1.pull1.pull2
    exact kS1 {c with l5:=(c.l5++[c.p6]),p6:=r_29,ok8:=r_31} {w with a_l5:=a_25,c_l5:=c_26} _ I H
  · replace I := I.drop1
    replace I:=I.drop1
    exact k c.l5 w.a_l5 w.c_l5 _ I H
theorem L1_r (I:I1 ρ c w A h) (H:L1 Q' c) (k:kt ρ A Q' Q):T1 (Tx.shape_Shape_Path_L1 ρ Q) c w h:=by
  refine Lf.ind H (fun v=> ∀ (w:W) (h:Hp),I1 ρ v w A h→T1 (Tx.shape_Shape_Path_L1 ρ Q) v w h) ?_ w h I
  rintro c S hS HB w h I
  refine Tx.shape_Shape_Path_L1_in _ _ _ _ _ _ _ ?_
  try simp only [nrm_v]
  exact B1_r (c:=c) (w:=w) I HB (fun c w h I H=>hS _ H w h I) k
end shape_Shape_Path
def shape_Shape_Path (s0:shape_Shape) (page1:Int) (Q:shape_Shape_Path.QT):Prop:=
  shape_Shape_Level s0 page1 fun r_5=>
  br (r_5 !=(0:Int))
  (Q ([]:List Int))
  (shape_Shape_Parent s0 page1 fun r_13 r_14 r_15=>
  shape_Shape_Path.L1 Q {shape_Shape_Path.v0 with s2:=s0,l5:=[page1],p6:=r_13,ok8:=r_15})
theorem shape_Shape_Path_r {s0:shape_Shape} {page1:Int} {a_s0_0:Option Addr} {c_s0_0:Nat} {n_s0_0:Nat} {Q':shape_Shape_Path.QT} {Q:shape_Shape_Path.RT} (I:Inv h (roS (rI .i64) a_s0_0 n_s0_0 c_s0_0 s0.begins::A)) (H:shape_Shape_Path s0 page1 Q')
    (k:shape_Shape_Path.kt ρ A Q' Q):Tx.shape_Shape_Path ρ ⟨a_s0_0,n_s0_0,c_s0_0⟩ page1 h Q:=by
  obtain rfl:=ro_len I
  unfold Tx.shape_Shape_Path
  unfold shape_Shape_Path at H
  refine al_r [.one (.slice a_s0_0 s0.begins.length c_s0_0)] rfl I fun p_2 h I=> ?_
  refine ldS_r (I.cell 0 0 rfl) ?_
  replace I:=I.pull1.dupR
  try simp only [nrm_v]
  refine shape_Shape_Level_r (s0:=s0) (item1:=page1) I H fun r_5 h I H=> ?_
  refine br_r H (fun hb H=> ?_) (fun hb H=> ?_)
  · replace I := I.nilO (rI .i64)
    replace I:=I.pull1.drop1
    replace I:=I.pull1.drop1
    exact k ([]:List Int) none 0 _ I H
  · refine al_r [.one (.int .i64 page1)] rfl I fun p_7 h I => ?_
    replace I:=I.litN (rI .i64)
    replace I:=I.repI (k:= .i64) page1
    replace I:=I.pull1.pull1
    replace I:=I.litC
    replace I:=I.pull1.pull1
    replace I:=Inv.litL (l:=[page1]) I rfl rfl
    refine ldS_r (I.pull2.cell 0 0 rfl) ?_
    replace I:=I.pull1.dupR
    try simp only [nrm_v]
    refine shape_Shape_Parent_r (s0:=s0) (item1:=page1) I H fun r_13 r_14 r_15 h I H=> ?_
    replace I:=I.dupR
    replace I:=I.pull1.drop1
    replace I:=I.pull1.pull1.pull2
    exact shape_Shape_Path.L1_r (c:= {shape_Shape_Path.v0 with s2:=s0,l5:=[page1],p6:=r_13,ok8:=r_15}) (w:= {shape_Shape_Path.w0 with p_s2:=p_2,a_s2:=a_s0_0,c_s2:=c_s0_0,a_l5:=(some p_7),c_l5:=1}) I H k
namespace commit_Need
structure V where
  s2:shape_Shape
  met5:Option (List (Int × Bool))
  v11:List Int
  v12:Int
  v13:Int
  v19:List Int
  v20:Int
  v21:Int
structure W where
  p_s2:Addr
  a_s2:Option Addr
  c_s2:Nat
  m_met5:Option Nat
  o_met5:Option (Array MapEntry × Nat)
  a_v11:Option Addr
  c_v11:Nat
  a_v19:Option Addr
  c_v19:Nat
def v0:V:=⟨(⟨[]⟩:shape_Shape),none,[],0,0,[],0,0⟩
def w0:W:=⟨⟨0,0,none⟩,none,0,none,none,none,0,none,0⟩
abbrev QT:=(List Int)→Prop
abbrev RT:=Sl→Hp→Prop
def kt (ρ:Ids) (X_pages1:At) (A:List At) (Q':QT) (Q:RT):Prop:=
  ∀ (r0:List Int) (ra0:Option Addr) (rc0:Nat) (h':Hp),Inv h' (ownS (rI .i64) ra0 r0.length rc0 r0::X_pages1::A)→Q' r0→Q ⟨ra0,r0.length,rc0⟩ h'
def I1 (ρ:Ids) (X_pages1:At) (c:V) (w:W) (A:List At) (h:Hp):Prop:=
  Rd (rI .i64) X_pages1 w.a_v11 c.v11.length w.c_v11 c.v11∧Inv h (X_pages1::blk w.p_s2 (ρ.T 11) [.one (.slice w.a_s2 c.s2.begins.length w.c_s2)]::roS (rI .i64) w.a_s2 c.s2.begins.length w.c_s2 c.s2.begins::mapX (kI .i64) rB false w.m_met5 w.o_met5 c.met5::A)
abbrev Y1:=Addr→Option Nat→Sl→Int→Int→Hp→Prop
abbrev T1 (X_pages1:At) (S:Y1) (c:V) (w:W) (h:Hp):Prop:=S w.p_s2 w.m_met5 ⟨w.a_v11,c.v11.length,w.c_v11⟩ c.v12 c.v13 h
def k1t (ρ:Ids) (X_pages1:At) (A:List At) (S':V→Prop) (S:Y1):Prop:= ∀ (c:V) (w:W) (h:Hp),I1 ρ X_pages1 c w A h→S' c→T1 X_pages1 S c w h
def I2 (ρ:Ids) (X_pages1:At) (c:V) (w:W) (A:List At) (h:Hp):Prop:=
  Rd (rI .i64) X_pages1 w.a_v11 c.v11.length w.c_v11 c.v11∧Inv h (X_pages1::blk w.p_s2 (ρ.T 11) [.one (.slice w.a_s2 c.s2.begins.length w.c_s2)]::roS (rI .i64) w.a_s2 c.s2.begins.length w.c_s2 c.s2.begins::mapX (kI .i64) rB false w.m_met5 w.o_met5 c.met5::ownS (rI .i64) w.a_v19 c.v19.length w.c_v19 c.v19::A)
abbrev Y2:=Addr→Option Nat→Sl→Int→Int→Sl→Int→Int→Hp→Prop
abbrev T2 (X_pages1:At) (S:Y2) (c:V) (w:W) (h:Hp):Prop:=S w.p_s2 w.m_met5 ⟨w.a_v11,c.v11.length,w.c_v11⟩ c.v12 c.v13 ⟨w.a_v19,c.v19.length,w.c_v19⟩ c.v20 c.v21 h
def k2t (ρ:Ids) (X_pages1:At) (A:List At) (S':V→Prop) (S:Y2):Prop:= ∀ (c:V) (w:W) (h:Hp),I2 ρ X_pages1 c w A h→S' c→T2 X_pages1 S c w h
def I3 (ρ:Ids) (X_pages1:At) (c:V) (w:W) (A:List At) (h:Hp):Prop:=
  Rd (rI .i64) X_pages1 w.a_v11 c.v11.length w.c_v11 c.v11∧Inv h (X_pages1::blk w.p_s2 (ρ.T 11) [.one (.slice w.a_s2 c.s2.begins.length w.c_s2)]::roS (rI .i64) w.a_s2 c.s2.begins.length w.c_s2 c.s2.begins::mapX (kI .i64) rB false w.m_met5 w.o_met5 c.met5::ownS (rI .i64) w.a_v19 c.v19.length w.c_v19 c.v19::A)
variable {X_pages1:At} {c:V} {w:W} {Q':QT} {Q:RT} {S1' S2':V→Prop} {S1:Y1} {S2:Y2}
def K3 (S1:V→Prop) (S2:V→Prop) (Q:QT) (c:V):Prop:=
  S2 {c with v21:=(IntKind.wrap .i64 (c.v21+(1:Int)))}
theorem K3_r (I:I3 ρ X_pages1 c w A h) (H:K3 S1' S2' Q' c) (kS1:k1t ρ X_pages1 A S1' S1) (kS2:k2t ρ X_pages1 A S2' S2) (k:kt ρ X_pages1 A Q' Q):Tx.commit_Need_K3 ρ S1 S2 Q w.p_s2 w.m_met5 ⟨w.a_v11,c.v11.length,w.c_v11⟩ c.v12 c.v13 ⟨w.a_v19,c.v19.length,w.c_v19⟩ c.v20 c.v21 h:=by
  obtain ⟨hX_v11,I⟩:=I
  unfold Tx.commit_Need_K3
  unfold K3 at H
  replace I:=I.pull2.dupR
  replace I:=I.pull1.drop1
  replace I:=I.pull4.pull4.pull2.pull4.pull4
  exact kS2 {c with v21:=(IntKind.wrap .i64 (c.v21+(1:Int)))} w _ ⟨hX_v11,I⟩ H
def B2 (S1:V→Prop) (S2:V→Prop) (Q:QT) (c:V):Prop:=
  br (decide (c.v21<c.v20))
  (ixP c.v19 c.v21 fun x_36=>
  br (decide (c.v21>(0:Int)))
  (muP c.met5 x_36 true fun L_43=>
  K3 S1 S2 Q {c with met5:=L_43})
  (K3 S1 S2 Q c))
  (S1 {c with v13:=(IntKind.wrap .i64 (c.v13+(1:Int)))})
def L2 (S1:V→Prop) (Q:QT) (c:V):Prop:=Lf (fun S=>B2 S1 S Q) c
theorem L2_in (S1:V→Prop) {Q:QT} {c:V} (H:B2 S1 (L2 S1 Q) Q c):L2 S1 Q c:=Lf.fold H
theorem B2_r (I:I2 ρ X_pages1 c w A h) (H:B2 S1' S2' Q' c) (kS1:k1t ρ X_pages1 A S1' S1) (kS2:k2t ρ X_pages1 A S2' S2) (k:kt ρ X_pages1 A Q' Q):T2 X_pages1 (Tx.commit_Need_B2 ρ S1 S2 Q) c w h:=by
  obtain ⟨hX_v11,I⟩:=I
  unfold T2 Tx.commit_Need_B2
  unfold B2 at H
  refine br_r H (fun hb H=> ?_) (fun hb H=> ?_)
  · refine ixI_a rd_own I.pull4 (ixP_keep H) fun p_37 x_36 he_38 hb_39 hc_40 H => ?_
    obtain ⟨hg_41,H⟩:=H
    refine ldI_r hc_40 ?_
    refine br_r H (fun hb H=> ?_) (fun hb H=> ?_)
    · replace I := I.repB true
      replace I:=I.pull4.pull1
      refine mu_r (Kx:=(kI .i64)) (key:=x_36) (x:=true) I rfl H fun h o_44 L_43 I H=> ?_
      replace I:=I.pull3.dupR
      replace I:=I.pull1.drop1
      replace I:=I.pull4.pull2.pull2.pull4.pull4
      exact K3_r (c:= {c with met5:=L_43}) (w:= {w with o_met5:=o_44}) ⟨hX_v11,I⟩ H kS1 kS2 k
    · replace I := I.pull2.dupR
      replace I:=I.pull1.drop1
      replace I:=I.pull4.pull4.pull2.pull4.pull4
      exact K3_r (c:=c) (w:=w) ⟨hX_v11,I⟩ H kS1 kS2 k
  · replace I := I.pull2.dupR
    replace I:=I.pull1.drop1
    replace I:=I.pull4.drop1
    replace I:=I.pull3.pull1.pull3.pull3
    exact kS1 {c with v13:=(IntKind.wrap .i64 (c.v13+(1:Int)))} w _ ⟨hX_v11,I⟩ H
theorem L2_r (I:I2 ρ X_pages1 c w A h) (H:L2 S1' Q' c) (kS1:k1t ρ X_pages1 A S1' S1) (k:kt ρ X_pages1 A Q' Q):T2 X_pages1 (Tx.commit_Need_L2 ρ S1 Q) c w h:=by
  refine Lf.ind H (fun v=> ∀ (w:W) (h:Hp),I2 ρ X_pages1 v w A h→T2 X_pages1 (Tx.commit_Need_L2 ρ S1 Q) v w h) ?_ w h I
  rintro c S hS HB w h I
  refine Tx.commit_Need_L2_in _ _ _ _ _ _ _ _ _ _ _ _ ?_
  try simp only [nrm_v]
  exact B2_r (c:=c) (w:=w) I HB kS1 (fun c w h I H=>hS _ H w h I) k
def B1 (S1:V→Prop) (Q:QT) (c:V):Prop:=
  br (decide (c.v13<c.v12))
  (ixP c.v11 c.v13 fun x_13=>
  shape_Shape_Path c.s2 x_13 fun r_20=>
  L2 S1 Q {c with v19:=r_20,v20:=(r_20.length:Int),v21:=(0:Int)})
  (sortKP c.met5 fun r_27=>
  Q r_27)
def L1 (Q:QT) (c:V):Prop:=Lf (fun S=>B1 S Q) c
theorem L1_in {Q:QT} {c:V} (H:B1 (L1 Q) Q c):L1 Q c:=Lf.fold H
theorem B1_r (I:I1 ρ X_pages1 c w A h) (H:B1 S1' Q' c) (kS1:k1t ρ X_pages1 A S1' S1) (k:kt ρ X_pages1 A Q' Q):T1 X_pages1 (Tx.commit_Need_B1 ρ S1 Q) c w h:=by
  obtain ⟨hX_v11,I⟩:=I
  unfold T1 Tx.commit_Need_B1
  unfold B1 at H
  refine br_r H (fun hb H=> ?_) (fun hb H=> ?_)
  · refine ixI_a hX_v11 I (ixP_keep H) fun p_14 x_13 he_15 hb_16 hc_17 H => ?_
    obtain ⟨hg_18,H⟩:=H
    refine ldI_r hc_17 ?_
    refine ldS_r (I.pull1.cell 0 0 rfl) ?_
    replace I:=I.pull2.dupR
    try simp only [nrm_v]
    refine shape_Shape_Path_r (s0:=c.s2) (page1:=x_13) I H fun r_20 a_21 c_22 h I H=> ?_
    replace I:=I.pull1.dupR
    replace I:=I.pull1.drop1
    replace I:=I.pull1.pull4.pull2.pull4.pull4
    exact L2_r (c:= {c with v19:=r_20,v20:=(r_20.length:Int),v21:=(0:Int)}) (w:= {w with a_v19:=a_21,c_v19:=c_22}) ⟨hX_v11,I⟩ H kS1 k
  · unfold Tx.maps_Keys_map_int_bool_int_bool
    refine al_r [.one (.map w.m_met5)] rfl I fun p_25 h I=> ?_
    replace I:=I.pull4.pull1
    refine sortK_r (k:=93) (by decide) I H fun r_27 a_28 c_29 h I H=> ?_
    replace I:=I.pull1.drop1
    replace I:=I.pull1.drop1
    replace I:=I.pull2.drop1
    replace I:=I.pull2.drop1
    replace I:=I.pull1.pull1
    exact k r_27 a_28 c_29 _ I H
theorem L1_r (I:I1 ρ X_pages1 c w A h) (H:L1 Q' c) (k:kt ρ X_pages1 A Q' Q):T1 X_pages1 (Tx.commit_Need_L1 ρ Q) c w h:=by
  refine Lf.ind H (fun v=> ∀ (w:W) (h:Hp),I1 ρ X_pages1 v w A h→T1 X_pages1 (Tx.commit_Need_L1 ρ Q) v w h) ?_ w h I
  rintro c S hS HB w h I
  refine Tx.commit_Need_L1_in _ _ _ _ _ _ _ _ ?_
  try simp only [nrm_v]
  exact B1_r (c:=c) (w:=w) I HB (fun c w h I H=>hS _ H w h I) k
end commit_Need
def commit_Need (s0:shape_Shape) (pages1:List Int) (Q:commit_Need.QT):Prop:=
  commit_Need.L1 Q {commit_Need.v0 with s2:=s0,met5:=(some []:Option (List (Int × Bool))),v11:=pages1,v12:=(pages1.length:Int),v13:=(0:Int)}
theorem commit_Need_r {s0:shape_Shape} {pages1:List Int} {a_s0_0:Option Addr} {c_s0_0:Nat} {n_s0_0:Nat} {a_pages1:Option Addr} {c_pages1:Nat} {n_pages1:Nat} {X_pages1:At} {Q':commit_Need.QT} {Q:commit_Need.RT} (hX_pages1:Rd (rI .i64) X_pages1 a_pages1 n_pages1 c_pages1 pages1) (I:Inv h (roS (rI .i64) a_s0_0 n_s0_0 c_s0_0 s0.begins::X_pages1::A)) (H:commit_Need s0 pages1 Q')
    (k:commit_Need.kt ρ X_pages1 A Q' Q):Tx.commit_Need ρ ⟨a_s0_0,n_s0_0,c_s0_0⟩ ⟨a_pages1,n_pages1,c_pages1⟩ h Q:=by
  obtain rfl:=ro_len I
  obtain rfl:=rd_len hX_pages1 I.pull1
  unfold Tx.commit_Need
  unfold commit_Need at H
  refine al_r [.one (.slice a_s0_0 s0.begins.length c_s0_0)] rfl I fun p_3 h I=> ?_
  refine amW_r (kI .i64) rB false I fun m_5 h o_6 I=> ?_
  replace I:=I.pull2.dupR
  replace I:=I.pull1.drop1
  replace I:=I.pull1.pull1.pull2.pull3
  exact commit_Need.L1_r (c:= {commit_Need.v0 with s2:=s0,met5:=(some []:Option (List (Int × Bool))),v11:=pages1,v12:=(pages1.length:Int),v13:=(0:Int)}) (w:= {commit_Need.w0 with p_s2:=p_3,a_s2:=a_s0_0,c_s2:=c_s0_0,m_met5:=(some m_5),o_met5:=o_6,a_v11:=a_pages1,c_v11:=c_pages1}) ⟨hX_pages1,I⟩ H k
namespace slices_IndexFunc_commit_Node_commit_Node
structure V where
  s0:List commit_Node
  v7:Int
  v8:Int
structure W where
  a_s0:Option Addr
  c_s0:Nat
def v0:V:=⟨[],0,0⟩
def w0:W:=⟨none,0⟩
abbrev QT (Z:Type):=Int→Z→Prop
abbrev RT:=Int→Hp→Prop
def kt {Z:Type} (C:Z→At) (ρ:Ids) (X_s0:At) (f1:Value) (A:List At) (Q':QT Z) (Q:RT):Prop:=
  ∀ (r0:Int) (h':Hp) (z':Z),Inv h' (X_s0::C z'::A)→Q' r0 z'→Q r0 h'
def I1 {Z:Type} (C:Z→At) (ρ:Ids) (X_s0:At) (f1:Value) (c:V) (w:W) (z:Z) (A:List At) (h:Hp):Prop:=
  Rd R_commit_Node X_s0 w.a_s0 c.s0.length w.c_s0 c.s0∧Inv h (X_s0::C z::A)
abbrev Y1:=Sl→Value→Int→Int→Hp→Prop
abbrev T1 (X_s0:At) (f1:Value) (S:Y1) (c:V) (w:W) (h:Hp):Prop:=S ⟨w.a_s0,c.s0.length,w.c_s0⟩ f1 c.v7 c.v8 h
def k1t {Z:Type} (C:Z→At) (ρ:Ids) (X_s0:At) (f1:Value) (A:List At) (S':V→Z→Prop) (S:Y1):Prop:= ∀ (c:V) (w:W) (h:Hp) (z:Z),I1 C ρ X_s0 f1 c w z A h→S' c z→T1 X_s0 f1 S c w h
variable {Z:Type} {C:Z→At} {φ':commit_Node→Z→(Bool→Z→Prop)→Prop} {φ:Value→List Value→Hp→(Value→Hp→Prop)→Prop} {X_s0:At} {f1:Value} {c:V} {w:W} {z:Z} {Q':QT Z} {Q:RT} {S1':V→Z→Prop} {S1:Y1}
def B1 {Z:Type} (φ:commit_Node→Z→(Bool→Z→Prop)→Prop) (S1:V→Z→Prop) (Q:QT Z) (c:V) (z:Z):Prop:=
  br (decide (c.v8<c.v7))
  (ixP c.s0 c.v8 fun x_5=>
  φ x_5 z fun y_15 z_16=>
  br y_15
  (Q c.v8 z_16)
  (S1 {c with v8:=(IntKind.wrap .i64 (c.v8+(1:Int)))} z_16))
  (Q (-1:Int) z)
def L1 {Z:Type} (φ:commit_Node→Z→(Bool→Z→Prop)→Prop) (Q:QT Z) (c:V) (z:Z):Prop:=
  Lf (fun S (v:V × Z)=>B1 φ (fun c z=>S (c,z)) Q v.1 v.2) (c,z)
theorem L1_in {Z:Type} (φ:commit_Node→Z→(Bool→Z→Prop)→Prop) {Q:QT Z} {c:V} {z:Z} (H:B1 φ (L1 φ Q) Q c z):L1 φ Q c z:=Lf.fold H
theorem B1_r (hφ: ∀ {x0:commit_Node} {x0a0:Option Addr} {x0c0:Nat} {z:Z} {h:Hp} {A:List At} {K':Bool→Z→Prop} {K:Bool→Hp→Prop},Inv h (roS R_seal_Ref x0a0 x0.Refs.length x0c0 x0.Refs::C z::A)→φ' x0 z K'→(∀ (y:Bool) (h':Hp) (z':Z),Inv h' (C z'::A)→K' y z'→K y h')→φ f1 [.agg ([.int .i64 x0.Item, .slice x0a0 x0.Refs.length x0c0]).toArray] h (fun v h'=>isB v fun y=>K y h')) (I:I1 C ρ X_s0 f1 c w z A h) (H:B1 φ' S1' Q' c z) (kS1:k1t C ρ X_s0 f1 A S1' S1) (k:kt C ρ X_s0 f1 A Q' Q):T1 X_s0 f1 (Tx.slices_IndexFunc_commit_Node_commit_Node_B1 ρ φ S1 Q) c w h:=by
  obtain ⟨hX_s0,I⟩:=I
  unfold T1 Tx.slices_IndexFunc_commit_Node_commit_Node_B1
  unfold B1 at H
  refine br_r H (fun hb H=> ?_) (fun hb H=> ?_)
  · refine ixcommit_Node hX_s0 I H fun p_6 x_5 a_11 c_12 he_7 hb_8 hc_9 hc_10 I H => ?_
    refine ldI_r hc_9 ?_
    refine ldS_r hc_10 ?_
    replace I:=I.dupR
    replace I:=I.pull3.pull1
    refine hφ (x0:=x_5) (z:=z) I H fun y_15 h z_16 I H=> ?_
    refine br_r H (fun hb H=> ?_) (fun hb H=> ?_)
    · replace I := I.pull1.drop1
      replace I:=I.pull1
      exact k c.v8 _ z_16 I H
    · replace I := I.pull1.drop1
      replace I:=I.pull1
      exact kS1 {c with v8:=(IntKind.wrap .i64 (c.v8+(1:Int)))} w _ z_16 ⟨hX_s0,I⟩ H
  · replace I := I.pull1.pull1
    exact k (-1:Int) _ z I H
theorem L1_r (hφ: ∀ {x0:commit_Node} {x0a0:Option Addr} {x0c0:Nat} {z:Z} {h:Hp} {A:List At} {K':Bool→Z→Prop} {K:Bool→Hp→Prop},Inv h (roS R_seal_Ref x0a0 x0.Refs.length x0c0 x0.Refs::C z::A)→φ' x0 z K'→(∀ (y:Bool) (h':Hp) (z':Z),Inv h' (C z'::A)→K' y z'→K y h')→φ f1 [.agg ([.int .i64 x0.Item, .slice x0a0 x0.Refs.length x0c0]).toArray] h (fun v h'=>isB v fun y=>K y h')) (I:I1 C ρ X_s0 f1 c w z A h) (H:L1 φ' Q' c z) (k:kt C ρ X_s0 f1 A Q' Q):T1 X_s0 f1 (Tx.slices_IndexFunc_commit_Node_commit_Node_L1 ρ φ Q) c w h:=by
  refine Lf.ind H (fun v=> ∀ (w:W) (h:Hp),I1 C ρ X_s0 f1 v.1 w v.2 A h→T1 X_s0 f1 (Tx.slices_IndexFunc_commit_Node_commit_Node_L1 ρ φ Q) v.1 w h) ?_ w h I
  rintro ⟨c,z⟩ S hS HB w h I
  refine Tx.slices_IndexFunc_commit_Node_commit_Node_L1_in _ _ _ _ _ _ _ _ ?_
  try simp only [nrm_v]
  exact B1_r (c:=c) (w:=w) hφ I HB (fun c w h z I H=>hS _ H w h I) k
end slices_IndexFunc_commit_Node_commit_Node
def slices_IndexFunc_commit_Node_commit_Node {Z:Type} (φ:commit_Node→Z→(Bool→Z→Prop)→Prop) (s0:List commit_Node) (z:Z) (Q:slices_IndexFunc_commit_Node_commit_Node.QT Z):Prop:=
  slices_IndexFunc_commit_Node_commit_Node.L1 φ Q {slices_IndexFunc_commit_Node_commit_Node.v0 with s0:=s0,v7:=(s0.length:Int),v8:=(0:Int)} z
theorem slices_IndexFunc_commit_Node_commit_Node_r {Z:Type} {C:Z→At} {φ':commit_Node→Z→(Bool→Z→Prop)→Prop} {φ:Value→List Value→Hp→(Value→Hp→Prop)→Prop} {s0:List commit_Node} {a_s0:Option Addr} {c_s0:Nat} {n_s0:Nat} {X_s0:At} {f1:Value} {z:Z} {Q':slices_IndexFunc_commit_Node_commit_Node.QT Z} {Q:slices_IndexFunc_commit_Node_commit_Node.RT} (hφ: ∀ {x0:commit_Node} {x0a0:Option Addr} {x0c0:Nat} {z:Z} {h:Hp} {A:List At} {K':Bool→Z→Prop} {K:Bool→Hp→Prop},Inv h (roS R_seal_Ref x0a0 x0.Refs.length x0c0 x0.Refs::C z::A)→φ' x0 z K'→(∀ (y:Bool) (h':Hp) (z':Z),Inv h' (C z'::A)→K' y z'→K y h')→φ f1 [.agg ([.int .i64 x0.Item, .slice x0a0 x0.Refs.length x0c0]).toArray] h (fun v h'=>isB v fun y=>K y h')) (hX_s0:Rd R_commit_Node X_s0 a_s0 n_s0 c_s0 s0) (I:Inv h (X_s0::C z::A)) (H:slices_IndexFunc_commit_Node_commit_Node φ' s0 z Q')
    (k:slices_IndexFunc_commit_Node_commit_Node.kt C ρ X_s0 f1 A Q' Q):Tx.slices_IndexFunc_commit_Node_commit_Node ρ φ ⟨a_s0,n_s0,c_s0⟩ f1 h Q:=by
  obtain rfl:=rd_len hX_s0 I
  unfold Tx.slices_IndexFunc_commit_Node_commit_Node
  unfold slices_IndexFunc_commit_Node_commit_Node at H
  replace I:=I.pull1.pull1
  exact slices_IndexFunc_commit_Node_commit_Node.L1_r (c:= {slices_IndexFunc_commit_Node_commit_Node.v0 with s0:=s0,v7:=(s0.length:Int),v8:=(0:Int)}) (w:= {slices_IndexFunc_commit_Node_commit_Node.w0 with a_s0:=a_s0,c_s0:=c_s0}) hφ ⟨hX_s0,I⟩ H k
def commit_Find_1 (n0:commit_Node) (v1:Int) (Q:Bool→Prop):Prop:=
  Q (n0.Item==v1)
theorem commit_Find_1_r {n0:commit_Node} {v1:Int} {a_n0_1:Option Addr} {c_n0_1:Nat} {n_n0_1:Nat} {p_v1:Addr} {Q':Bool→Prop} {Q:Bool→Hp→Prop} (I:Inv h (roS R_seal_Ref a_n0_1 n_n0_1 c_n0_1 n0.Refs::blk p_v1 (ρ.T 0) [.one (.int .i64 v1)]::A)) (H:commit_Find_1 n0 v1 Q')
    (k: ∀ (r0:Bool) (h':Hp),Inv h' (blk p_v1 (ρ.T 0) [.one (.int .i64 v1)]::A)→Q' r0→Q r0 h'):Tx.commit_Find_1 ρ n0.Item ⟨a_n0_1,n_n0_1,c_n0_1⟩ p_v1 h Q:=by
  obtain rfl:=ro_len I
  unfold Tx.commit_Find_1
  unfold commit_Find_1 at H
  refine al_r [.one (.int .i64 n0.Item), .one (.slice a_n0_1 n0.Refs.length c_n0_1)] rfl I fun p_3 h I=> ?_
  refine ldI_r (I.cell 0 0 rfl) ?_
  refine ldI_r (I.pull2.cell 0 0 rfl) ?_
  replace I:=I.drop1
  replace I:=I.drop1
  exact k (n0.Item==v1) _ I H
def slices_Clone_seal_Ref_seal_Ref (s0:List seal_Ref) (Q:List seal_Ref→Prop):Prop:=cloneP s0 Q
theorem slices_Clone_seal_Ref_seal_Ref_r {ρ:Ids} {h:Hp} {A:List At} {s0:List seal_Ref} {a:Option Addr} {nl c:Nat} {X:At} {Q':List seal_Ref→Prop} {Q:Sl→Hp→Prop} (hX:Rd R_seal_Ref X a nl c s0) (I:Inv h (X::A)) (H:slices_Clone_seal_Ref_seal_Ref s0 Q')
    (k: ∀ (r:List seal_Ref) (ra:Option Addr) (rc:Nat) (h':Hp),Inv h' (ownS R_seal_Ref ra r.length rc r::X::A)→Q' r→Q ⟨ra,r.length,rc⟩ h'):Tx.slices_Clone_seal_Ref_seal_Ref ρ ⟨a,nl,c⟩ h Q:=by
  unfold Tx.slices_Clone_seal_Ref_seal_Ref
  exact clone_r hX I (by decide) rfl (by decide) (by decide) H k
def commit_Find (nodes0:List commit_Node) (item1:Int) (Q:(List seal_Ref)→Bool→Prop):Prop:=
  slices_IndexFunc_commit_Node_commit_Node (fun x0 _ K=>commit_Find_1 x0 item1 (fun r=>K r ())) nodes0 () fun r_6 z_7=>
  br (decide (r_6<(0:Int)))
  (Q ([]:List seal_Ref) false)
  (ixP nodes0 r_6 fun x_9=>
  slices_Clone_seal_Ref_seal_Ref x_9.Refs fun r_18=>
  Q r_18 true)
theorem commit_Find_r {nodes0 : List commit_Node} {item1 : Int} {a_nodes0 : Option Addr} {c_nodes0 : Nat} {n_nodes0 : Nat} {X_nodes0 : At} {Q' : (List seal_Ref) → Bool → Prop} {Q : Sl → Bool → Hp → Prop} (hX_nodes0 : Rd R_commit_Node X_nodes0 a_nodes0 n_nodes0 c_nodes0 nodes0) (I : Inv h (X_nodes0 :: A)) (H : commit_Find nodes0 item1 Q')
    (k: ∀ (r0:List seal_Ref) (ra0:Option Addr) (rc0:Nat) (r1:Bool) (h':Hp),Inv h' (ownS R_seal_Ref ra0 r0.length rc0 r0::X_nodes0::A)→Q' r0 r1→Q ⟨ra0,r0.length,rc0⟩ r1 h'):Tx.commit_Find ρ ⟨a_nodes0,n_nodes0,c_nodes0⟩ item1 h Q:=by
  obtain rfl:=rd_len hX_nodes0 I
  unfold Tx.commit_Find
  unfold commit_Find at H
  refine al_r [.one (.int .i64 item1)] rfl I fun p_2 h I=> ?_
  replace I:=Inv.bigI (As:=[blk p_2 (ρ.T 0) [.one (.int .i64 item1)]]) I
  replace I:=I.pull1
  refine slices_IndexFunc_commit_Node_commit_Node_r (s0:=nodes0) (C:=(fun _=>bigA [blk p_2 (ρ.T 0) [.one (.int .i64 item1)]])) (φ':=(fun x0 _ K=>commit_Find_1 x0 item1 (fun r=>K r ()))) (z:=()) (by
        intro _ _ _ z h A K' K I H k
        replace I:=I.pull1.bigE
        replace I:=I.pull1
        refine phi_one ?_
        unfold Tx.commit_Find_1_S
        dsimp only [List.cons_append,List.nil_append,List.toList_toArray,tI,tA,tN,tS,tB,tT,tP,tM,tV,tG,cnd,sameKind]
        refine commit_Find_1_r (v1:=item1) I H fun r h I H=> ?_
        exact ⟨_,rfl,k _ _ () (Inv.bigI (As:=[blk p_2 (ρ.T 0) [.one (.int .i64 item1)]]) I) H⟩) hX_nodes0 I H fun r_6 h z_7 I H=> ?_
  replace I:=I.pull1.bigE
  refine br_r H (fun hb H=> ?_) (fun hb H=> ?_)
  · replace I := I.nilO R_seal_Ref
    replace I:=I.pull1.drop1
    replace I:=I.pull1.pull1
    exact k ([]:List seal_Ref) none 0 false _ I H
  · refine ixcommit_Node hX_nodes0 I.pull1 H fun p_10 x_9 a_15 c_16 he_11 hb_12 hc_13 hc_14 I H => ?_
    refine ldS_r hc_14 ?_
    refine slices_Clone_seal_Ref_seal_Ref_r (s0:=x_9.Refs) rd_ro I H fun r_18 a_19 c_20 h I H=> ?_
    replace I:=I.pull1.drop1
    replace I:=I.pull2.drop1
    replace I:=I.pull1.pull1
    exact k r_18 a_19 c_20 true _ I H
def shape_Shape_Pages (s0:shape_Shape) (Q:Int→Prop):Prop:=
  br ((s0.begins.length:Int)==(0:Int))
  (Q (0:Int))
  (ixP s0.begins (1:Int) fun x_4=>
  Q x_4)
theorem shape_Shape_Pages_r {s0:shape_Shape} {a_s0_0:Option Addr} {c_s0_0:Nat} {n_s0_0:Nat} {Q':Int→Prop} {Q:Int→Hp→Prop} (I:Inv h (roS (rI .i64) a_s0_0 n_s0_0 c_s0_0 s0.begins::A)) (H:shape_Shape_Pages s0 Q')
    (k: ∀ (r0:Int) (h':Hp),Inv h' (A)→Q' r0→Q r0 h'):Tx.shape_Shape_Pages ρ ⟨a_s0_0,n_s0_0,c_s0_0⟩ h Q:=by
  obtain rfl:=ro_len I
  unfold Tx.shape_Shape_Pages
  unfold shape_Shape_Pages at H
  refine al_r [.one (.slice a_s0_0 s0.begins.length c_s0_0)] rfl I fun p_2 h I=> ?_
  refine ldS_r (I.cell 0 0 rfl) ?_
  refine br_r H (fun hb H=> ?_) (fun hb H=> ?_)
  · replace I := I.drop1
    replace I:=I.drop1
    exact k (0:Int) _ I H
  · refine ldS_r (I.cell 0 0 rfl) ?_
    refine ixI_a rd_ro I.pull1 (ixP_keep H) fun p_5 x_4 he_6 hb_7 hc_8 H=> ?_
    obtain ⟨hg_9,H⟩:=H
    refine ldI_r hc_8 ?_
    replace I:=I.drop1
    replace I:=I.drop1
    exact k x_4 _ I H
namespace commit_pages
structure V where
  l3:List Int
  v6:List commit_Change
  v7:Int
  v8:Int
structure W where
  a_l3:Option Addr
  c_l3:Nat
  a_v6:Option Addr
  c_v6:Nat
def v0:V:=⟨[],[],0,0⟩
def w0:W:=⟨none,0,none,0⟩
abbrev QT:=(List Int)→Prop
abbrev RT:=Sl→Hp→Prop
def kt (ρ:Ids) (X_changes0:At) (A:List At) (Q':QT) (Q:RT):Prop:=
  ∀ (r0:List Int) (ra0:Option Addr) (rc0:Nat) (h':Hp),Inv h' (ownS (rI .i64) ra0 r0.length rc0 r0::X_changes0::A)→Q' r0→Q ⟨ra0,r0.length,rc0⟩ h'
def I1 (ρ:Ids) (X_changes0:At) (c:V) (w:W) (A:List At) (h:Hp):Prop:=
  Rd R_commit_Change X_changes0 w.a_v6 c.v6.length w.c_v6 c.v6∧Inv h (X_changes0::ownS (rI .i64) w.a_l3 c.l3.length w.c_l3 c.l3::A)
abbrev Y1:=Sl→Sl→Int→Int→Hp→Prop
abbrev T1 (X_changes0:At) (S:Y1) (c:V) (w:W) (h:Hp):Prop:=S ⟨w.a_l3,c.l3.length,w.c_l3⟩ ⟨w.a_v6,c.v6.length,w.c_v6⟩ c.v7 c.v8 h
def k1t (ρ:Ids) (X_changes0:At) (A:List At) (S':V→Prop) (S:Y1):Prop:= ∀ (c:V) (w:W) (h:Hp),I1 ρ X_changes0 c w A h→S' c→T1 X_changes0 S c w h
variable {X_changes0:At} {c:V} {w:W} {Q':QT} {Q:RT} {S1':V→Prop} {S1:Y1}
def B1 (S1:V→Prop) (Q:QT) (c:V):Prop:=
  br (decide (c.v8<c.v7))
  (ixP c.v6 c.v8 fun x_5=>
  (Bnd (c.l3.length+([x_5.Page]).length))∧
  S1 {c with l3:=(c.l3++[x_5.Page]),v8:=(IntKind.wrap .i64 (c.v8+(1:Int)))})
  (Q c.l3)
def L1 (Q:QT) (c:V):Prop:=Lf (fun S=>B1 S Q) c
theorem L1_in {Q:QT} {c:V} (H:B1 (L1 Q) Q c):L1 Q c:=Lf.fold H
theorem B1_r (I:I1 ρ X_changes0 c w A h) (H:B1 S1' Q' c) (kS1:k1t ρ X_changes0 A S1' S1) (k:kt ρ X_changes0 A Q' Q):T1 X_changes0 (Tx.commit_pages_B1 ρ S1 Q) c w h:=by
  obtain ⟨hX_v6,I⟩:=I
  unfold T1 Tx.commit_pages_B1
  unfold B1 at H
  refine br_r H (fun hb H=> ?_) (fun hb H=> ?_)
  · refine ixcommit_Change hX_v6 I H fun p_6 x_5 a_11 c_12 he_7 hb_8 hc_9 hc_10 I H => ?_
    refine ldI_r hc_9 ?_
    refine ldS_r hc_10 ?_
    refine al_r [.one (.int .i64 (0:Int)), .one (.slice none 0 0)] rfl I fun p_14 h I=> ?_
    refine stA_r I 0 2 0 [.one (.int .i64 x_5.Page), .one (.slice a_11 x_5.Bytes.length c_12)] rfl rfl rfl (by first | exact all_segs rfl | exact all_one (by simp [segs,Seg.cells,allOne,allOne_append,allOne_lump,Value.oneCell'])) fun h (I:Inv h (blk p_14 (ρ.T 17) [.one (.int .i64 x_5.Page), .one (.slice a_11 x_5.Bytes.length c_12)]::_))=> ?_
    refine ldI_r (I.cell 0 0 rfl) ?_
    refine al_r [.one (.int .i64 x_5.Page)] rfl I fun p_16 h I=> ?_
    replace I:=I.litN (rI .i64)
    replace I:=I.repI (k:= .i64) x_5.Page
    replace I:=I.pull1.pull1
    replace I:=I.litC
    replace I:=I.pull1.pull1
    replace I:=Inv.litL (l:=[x_5.Page]) I rfl rfl
    refine ap_r rd_own I.pull4 rfl (by decide) (by decide) H.1 fun a_21 c_22 h I=> ?_
    replace H:=H.2
    replace I:=I.pull1.drop1
    replace I:=I.pull1.drop1
    replace I:=I.pull1.drop1
    replace I:=I.pull1
    exact kS1 {c with l3:=(c.l3++[x_5.Page]),v8:=(IntKind.wrap .i64 (c.v8+(1:Int)))} {w with a_l3:=a_21,c_l3:=c_22} _ ⟨hX_v6,I⟩ H
  · replace I := I.pull1
    exact k c.l3 w.a_l3 w.c_l3 _ I H
theorem L1_r (I:I1 ρ X_changes0 c w A h) (H:L1 Q' c) (k:kt ρ X_changes0 A Q' Q):T1 X_changes0 (Tx.commit_pages_L1 ρ Q) c w h:=by
  refine Lf.ind H (fun v=> ∀ (w:W) (h:Hp),I1 ρ X_changes0 v w A h→T1 X_changes0 (Tx.commit_pages_L1 ρ Q) v w h) ?_ w h I
  rintro c S hS HB w h I
  refine Tx.commit_pages_L1_in _ _ _ _ _ _ _ ?_
  try simp only [nrm_v]
  exact B1_r (c:=c) (w:=w) I HB (fun c w h I H=>hS _ H w h I) k
end commit_pages
def commit_pages (changes0:List commit_Change) (Q:commit_pages.QT):Prop:=
  commit_pages.L1 Q {commit_pages.v0 with l3:=([]:List Int),v6:=changes0,v7:=(changes0.length:Int),v8:=(0:Int)}
theorem commit_pages_r {changes0:List commit_Change} {a_changes0:Option Addr} {c_changes0:Nat} {n_changes0:Nat} {X_changes0:At} {Q':commit_pages.QT} {Q:commit_pages.RT} (hX_changes0:Rd R_commit_Change X_changes0 a_changes0 n_changes0 c_changes0 changes0) (I:Inv h (X_changes0::A)) (H:commit_pages changes0 Q')
    (k:commit_pages.kt ρ X_changes0 A Q' Q):Tx.commit_pages ρ ⟨a_changes0,n_changes0,c_changes0⟩ h Q:=by
  obtain rfl:=rd_len hX_changes0 I
  unfold Tx.commit_pages
  unfold commit_pages at H
  replace I:=I.nilO (rI .i64)
  replace I:=I.pull1
  exact commit_pages.L1_r (c:= {commit_pages.v0 with l3:=([]:List Int),v6:=changes0,v7:=(changes0.length:Int),v8:=(0:Int)}) (w:= {commit_pages.w0 with a_l3:=none,c_l3:=0,a_v6:=a_changes0,c_v6:=c_changes0}) ⟨hX_changes0,I⟩ H k
def commit_isPlace (r0:seal_Ref) (Q:Bool→Prop):Prop:=
  br (r0.Place==(0:Int))
  (Q true)
  (Q (r0.Place==(1:Int)))
theorem commit_isPlace_r {r0:seal_Ref} {Q':Bool→Prop} {Q:Bool→Hp→Prop} (I:Inv h (A)) (H:commit_isPlace r0 Q')
    (k: ∀ (r0:Bool) (h':Hp),Inv h' (A)→Q' r0→Q r0 h'):Tx.commit_isPlace ρ r0.Place r0.Epoch r0.Digest.toList h Q:=by
  unfold Tx.commit_isPlace
  unfold commit_isPlace at H
  try simp only [nrm_v]
  refine al_r [.one (.int .i64 r0.Place), .one (.int .u32 r0.Epoch), .vec .u8 32 r0.Digest] rfl I fun p_1 h I=> ?_
  refine ldI_r (I.cell 0 0 rfl) ?_
  refine br_r H (fun hb H=> ?_) (fun hb H=> ?_)
  · replace I := I.drop1
    exact k true _ I H
  · refine ldI_r (I.cell 0 0 rfl) ?_
    replace I:=I.drop1
    exact k (r0.Place==(1:Int)) _ I H
def commit_May_1 (r0:seal_Ref) (Q:Bool→Prop):Prop:=
  commit_isPlace r0 fun r_3=>
  Q (!r_3)
theorem commit_May_1_r {r0:seal_Ref} {Q':Bool→Prop} {Q:Bool→Hp→Prop} (I:Inv h (A)) (H:commit_May_1 r0 Q')
    (k: ∀ (r0:Bool) (h':Hp),Inv h' (A)→Q' r0→Q r0 h'):Tx.commit_May_1 ρ r0.Place r0.Epoch r0.Digest.toList h Q:=by
  unfold Tx.commit_May_1
  unfold commit_May_1 at H
  try simp only [nrm_v]
  refine al_r [.one (.int .i64 r0.Place), .one (.int .u32 r0.Epoch), .vec .u8 32 r0.Digest] rfl I fun p_1 h I=> ?_
  refine ldI_r (I.cell 0 0 rfl) ?_
  refine ldI_r (I.cell 1 1 rfl) ?_
  refine ldL_r (I.lump 2 2 rfl) ?_
  try simp only [nrm_v]
  try simp only [nrm_v]
  refine commit_isPlace_r (r0:=r0) I H fun r_3 h I H=> ?_
  replace I:=I.drop1
  exact k (!r_3) _ I H
namespace shape_Shape_Kids
structure V where
  s2:shape_Shape
  level5:Int
  from6:Int
  l7:List Int
  k8:Int
structure W where
  p_s2:Addr
  a_s2:Option Addr
  c_s2:Nat
  a_l7:Option Addr
  c_l7:Nat
def v0:V:=⟨(⟨[]⟩:shape_Shape),0,0,[],0⟩
def w0:W:=⟨⟨0,0,none⟩,none,0,none,0⟩
abbrev QT:=(List Int)→Prop
abbrev RT:=Sl→Hp→Prop
def kt (ρ:Ids) (A:List At) (Q':QT) (Q:RT):Prop:=
  ∀ (r0:List Int) (ra0:Option Addr) (rc0:Nat) (h':Hp),Inv h' (ownS (rI .i64) ra0 r0.length rc0 r0::A)→Q' r0→Q ⟨ra0,r0.length,rc0⟩ h'
def I1 (ρ:Ids) (c:V) (w:W) (A:List At) (h:Hp):Prop:=
  Inv h (blk w.p_s2 (ρ.T 11) [.one (.slice w.a_s2 c.s2.begins.length w.c_s2)]::roS (rI .i64) w.a_s2 c.s2.begins.length w.c_s2 c.s2.begins::ownS (rI .i64) w.a_l7 c.l7.length w.c_l7 c.l7::A)
abbrev Y1:=Addr→Int→Int→Sl→Int→Hp→Prop
abbrev T1 (S:Y1) (c:V) (w:W) (h:Hp):Prop:=S w.p_s2 c.level5 c.from6 ⟨w.a_l7,c.l7.length,w.c_l7⟩ c.k8 h
def k1t (ρ:Ids) (A:List At) (S':V→Prop) (S:Y1):Prop:= ∀ (c:V) (w:W) (h:Hp),I1 ρ c w A h→S' c→T1 S c w h
variable {c:V} {w:W} {Q':QT} {Q:RT} {S1':V→Prop} {S1:Y1}
def B1 (S1:V→Prop) (Q:QT) (c:V):Prop:=
  ixP c.s2.begins c.level5 fun x_24=>
  br (decide (c.k8<(if x_24<(IntKind.wrap .i64 (c.from6+(6:Int))) then x_24 else (IntKind.wrap .i64 (c.from6+(6:Int))))))
  ((Bnd (c.l7.length+([c.k8]).length))∧
  S1 {c with l7:=(c.l7++[c.k8]),k8:=(IntKind.wrap .i64 (c.k8+(1:Int)))})
  (Q c.l7)
def L1 (Q:QT) (c:V):Prop:=Lf (fun S=>B1 S Q) c
theorem L1_in {Q:QT} {c:V} (H:B1 (L1 Q) Q c):L1 Q c:=Lf.fold H
theorem B1_r (I:I1 ρ c w A h) (H:B1 S1' Q' c) (kS1:k1t ρ A S1' S1) (k:kt ρ A Q' Q):T1 (Tx.shape_Shape_Kids_B1 ρ S1 Q) c w h:=by
  unfold I1 at I
  unfold T1 Tx.shape_Shape_Kids_B1
  unfold B1 at H
  refine ldS_r (I.cell 0 0 rfl) ?_
  refine ixI_a rd_ro I.pull1 (ixP_keep H) fun p_25 x_24 he_26 hb_27 hc_28 H=> ?_
  obtain ⟨hg_29,H⟩:=H
  refine ldI_r hc_28 ?_
  refine br_r H (fun hb H=> ?_) (fun hb H=> ?_)
  · refine al_r [.one (.int .i64 c.k8)] rfl I fun p_30 h I => ?_
    replace I:=I.litN (rI .i64)
    replace I:=I.repI (k:= .i64) c.k8
    replace I:=I.pull1.pull1
    replace I:=I.litC
    replace I:=I.pull1.pull1
    replace I:=Inv.litL (l:=[c.k8]) I rfl rfl
    refine ap_r rd_own I.pull3 rfl (by decide) (by decide) H.1 fun a_35 c_36 h I=> ?_
    replace H:=H.2
    replace I:=I.pull1.drop1
    replace I:=I.pull2.dupR
    replace I:=I.pull1.drop1
    replace I:=I.pull1.pull1.pull2
    exact kS1 {c with l7:=(c.l7++[c.k8]),k8:=(IntKind.wrap .i64 (c.k8+(1:Int)))} {w with a_l7:=a_35,c_l7:=c_36} _ I H
  · replace I := I.drop1
    replace I:=I.drop1
    exact k c.l7 w.a_l7 w.c_l7 _ I H
theorem L1_r (I:I1 ρ c w A h) (H:L1 Q' c) (k:kt ρ A Q' Q):T1 (Tx.shape_Shape_Kids_L1 ρ Q) c w h:=by
  refine Lf.ind H (fun v=> ∀ (w:W) (h:Hp),I1 ρ v w A h→T1 (Tx.shape_Shape_Kids_L1 ρ Q) v w h) ?_ w h I
  rintro c S hS HB w h I
  refine Tx.shape_Shape_Kids_L1_in _ _ _ _ _ _ _ _ ?_
  try simp only [nrm_v]
  exact B1_r (c:=c) (w:=w) I HB (fun c w h I H=>hS _ H w h I) k
end shape_Shape_Kids
def shape_Shape_Kids (s0:shape_Shape) (item1:Int) (Q:shape_Shape_Kids.QT):Prop:=
  shape_Shape_Level s0 item1 fun r_5=>
  br (decide (r_5<(1:Int)))
  (Q ([]:List Int))
  (ixP s0.begins (IntKind.wrap .i64 (r_5 - (1:Int))) fun x_7=>
  ixP s0.begins r_5 fun x_13=>
  shape_Shape_Kids.L1 Q {shape_Shape_Kids.v0 with s2:=s0,level5:=r_5,from6:=(IntKind.wrap .i64 (x_7+(IntKind.wrap .i64 ((6:Int)*(IntKind.wrap .i64 (item1 - x_13)))))),l7:=([]:List Int),k8:=(IntKind.wrap .i64 (x_7+(IntKind.wrap .i64 ((6:Int)*(IntKind.wrap .i64 (item1 - x_13))))))})
theorem shape_Shape_Kids_r {s0:shape_Shape} {item1:Int} {a_s0_0:Option Addr} {c_s0_0:Nat} {n_s0_0:Nat} {Q':shape_Shape_Kids.QT} {Q:shape_Shape_Kids.RT} (I:Inv h (roS (rI .i64) a_s0_0 n_s0_0 c_s0_0 s0.begins::A)) (H:shape_Shape_Kids s0 item1 Q')
    (k:shape_Shape_Kids.kt ρ A Q' Q):Tx.shape_Shape_Kids ρ ⟨a_s0_0,n_s0_0,c_s0_0⟩ item1 h Q:=by
  obtain rfl:=ro_len I
  unfold Tx.shape_Shape_Kids
  unfold shape_Shape_Kids at H
  refine al_r [.one (.slice a_s0_0 s0.begins.length c_s0_0)] rfl I fun p_2 h I=> ?_
  refine ldS_r (I.cell 0 0 rfl) ?_
  replace I:=I.pull1.dupR
  try simp only [nrm_v]
  refine shape_Shape_Level_r (s0:=s0) (item1:=item1) I H fun r_5 h I H=> ?_
  refine br_r H (fun hb H=> ?_) (fun hb H=> ?_)
  · replace I := I.nilO (rI .i64)
    replace I:=I.pull1.drop1
    replace I:=I.pull1.drop1
    exact k ([]:List Int) none 0 _ I H
  · refine ldS_r (I.pull1.cell 0 0 rfl) ?_
    refine ixI_a rd_ro I (ixP_keep H) fun p_8 x_7 he_9 hb_10 hc_11 H=> ?_
    obtain ⟨hg_12,H⟩:=H
    refine ldI_r hc_11 ?_
    refine ldS_r (I.pull1.cell 0 0 rfl) ?_
    refine ixI_a rd_ro I (ixP_keep H) fun p_14 x_13 he_15 hb_16 hc_17 H=> ?_
    obtain ⟨hg_18,H⟩:=H
    refine ldI_r hc_17 ?_
    replace I:=I.dupR
    replace I:=I.nilO (rI .i64)
    replace I:=I.pull2.drop1
    replace I:=I.pull1.pull2
    exact shape_Shape_Kids.L1_r (c:= {shape_Shape_Kids.v0 with s2:=s0,level5:=r_5,from6:=(IntKind.wrap .i64 (x_7+(IntKind.wrap .i64 ((6:Int)*(IntKind.wrap .i64 (item1 - x_13)))))),l7:=([]:List Int),k8:=(IntKind.wrap .i64 (x_7+(IntKind.wrap .i64 ((6:Int)*(IntKind.wrap .i64 (item1 - x_13))))))}) (w:= {shape_Shape_Kids.w0 with p_s2:=p_2,a_s2:=a_s0_0,c_s2:=c_s0_0,a_l7:=none,c_l7:=0}) I H k
namespace slices_IndexFunc_seal_Ref_seal_Ref
structure V where
  s0:List seal_Ref
  v7:Int
  v8:Int
structure W where
  a_s0:Option Addr
  c_s0:Nat
def v0:V:=⟨[],0,0⟩
def w0:W:=⟨none,0⟩
abbrev QT (Z:Type):=Int→Z→Prop
abbrev RT:=Int→Hp→Prop
def kt {Z:Type} (C:Z→At) (ρ:Ids) (X_s0:At) (f1:Value) (A:List At) (Q':QT Z) (Q:RT):Prop:=
  ∀ (r0:Int) (h':Hp) (z':Z),Inv h' (X_s0::C z'::A)→Q' r0 z'→Q r0 h'
def I1 {Z:Type} (C:Z→At) (ρ:Ids) (X_s0:At) (f1:Value) (c:V) (w:W) (z:Z) (A:List At) (h:Hp):Prop:=
  Rd R_seal_Ref X_s0 w.a_s0 c.s0.length w.c_s0 c.s0∧Inv h (X_s0::C z::A)
abbrev Y1:=Sl→Value→Int→Int→Hp→Prop
abbrev T1 (X_s0:At) (f1:Value) (S:Y1) (c:V) (w:W) (h:Hp):Prop:=S ⟨w.a_s0,c.s0.length,w.c_s0⟩ f1 c.v7 c.v8 h
def k1t {Z:Type} (C:Z→At) (ρ:Ids) (X_s0:At) (f1:Value) (A:List At) (S':V→Z→Prop) (S:Y1):Prop:= ∀ (c:V) (w:W) (h:Hp) (z:Z),I1 C ρ X_s0 f1 c w z A h→S' c z→T1 X_s0 f1 S c w h
variable {Z:Type} {C:Z→At} {φ':seal_Ref→Z→(Bool→Z→Prop)→Prop} {φ:Value→List Value→Hp→(Value→Hp→Prop)→Prop} {X_s0:At} {f1:Value} {c:V} {w:W} {z:Z} {Q':QT Z} {Q:RT} {S1':V→Z→Prop} {S1:Y1}
def B1 {Z:Type} (φ:seal_Ref→Z→(Bool→Z→Prop)→Prop) (S1:V→Z→Prop) (Q:QT Z) (c:V) (z:Z):Prop:=
  br (decide (c.v8<c.v7))
  (ixP c.s0 c.v8 fun x_5=>
  φ x_5 z fun y_13 z_14=>
  br y_13
  (Q c.v8 z_14)
  (S1 {c with v8:=(IntKind.wrap .i64 (c.v8+(1:Int)))} z_14))
  (Q (-1:Int) z)
def L1 {Z:Type} (φ:seal_Ref→Z→(Bool→Z→Prop)→Prop) (Q:QT Z) (c:V) (z:Z):Prop:=
  Lf (fun S (v:V × Z)=>B1 φ (fun c z=>S (c,z)) Q v.1 v.2) (c,z)
theorem L1_in {Z:Type} (φ:seal_Ref→Z→(Bool→Z→Prop)→Prop) {Q:QT Z} {c:V} {z:Z} (H:B1 φ (L1 φ Q) Q c z):L1 φ Q c z:=Lf.fold H
theorem B1_r (hφ: ∀ {x0:seal_Ref} {z:Z} {h:Hp} {A:List At} {K':Bool→Z→Prop} {K:Bool→Hp→Prop},Inv h (C z::A)→φ' x0 z K'→(∀ (y:Bool) (h':Hp) (z':Z),Inv h' (C z'::A)→K' y z'→K y h')→φ f1 [.agg (([.int .i64 x0.Place, .int .u32 x0.Epoch]:List Value)++lumpV .u8 32 x0.Digest.toList).toArray] h (fun v h'=>isB v fun y=>K y h')) (I:I1 C ρ X_s0 f1 c w z A h) (H:B1 φ' S1' Q' c z) (kS1:k1t C ρ X_s0 f1 A S1' S1) (k:kt C ρ X_s0 f1 A Q' Q):T1 X_s0 f1 (Tx.slices_IndexFunc_seal_Ref_seal_Ref_B1 ρ φ S1 Q) c w h:=by
  obtain ⟨hX_s0,I⟩:=I
  unfold T1 Tx.slices_IndexFunc_seal_Ref_seal_Ref_B1
  unfold B1 at H
  refine br_r H (fun hb H=> ?_) (fun hb H=> ?_)
  · refine ixseal_Ref hX_s0 I (ixP_keep H) fun p_6 x_5 he_7 hb_8 hc_9 hc_10 hc_11 I H => ?_
    obtain ⟨hg_12,H⟩:=H
    refine ldI_r hc_9 ?_
    refine ldI_r hc_10 ?_
    refine ldL_r hc_11 ?_
    try simp only [nrm_v]
    replace I:=I.pull1
    refine hφ (x0:=x_5) (z:=z) I H fun y_13 h z_14 I H=> ?_
    refine br_r H (fun hb H=> ?_) (fun hb H=> ?_)
    · replace I := I.pull1
      exact k c.v8 _ z_14 I H
    · replace I := I.pull1
      exact kS1 {c with v8:=(IntKind.wrap .i64 (c.v8+(1:Int)))} w _ z_14 ⟨hX_s0,I⟩ H
  · replace I := I.pull1.pull1
    exact k (-1:Int) _ z I H
theorem L1_r (hφ: ∀ {x0:seal_Ref} {z:Z} {h:Hp} {A:List At} {K':Bool→Z→Prop} {K:Bool→Hp→Prop},Inv h (C z::A)→φ' x0 z K'→(∀ (y:Bool) (h':Hp) (z':Z),Inv h' (C z'::A)→K' y z'→K y h')→φ f1 [.agg (([.int .i64 x0.Place, .int .u32 x0.Epoch]:List Value)++lumpV .u8 32 x0.Digest.toList).toArray] h (fun v h'=>isB v fun y=>K y h')) (I:I1 C ρ X_s0 f1 c w z A h) (H:L1 φ' Q' c z) (k:kt C ρ X_s0 f1 A Q' Q):T1 X_s0 f1 (Tx.slices_IndexFunc_seal_Ref_seal_Ref_L1 ρ φ Q) c w h:=by
  refine Lf.ind H (fun v=> ∀ (w:W) (h:Hp),I1 C ρ X_s0 f1 v.1 w v.2 A h→T1 X_s0 f1 (Tx.slices_IndexFunc_seal_Ref_seal_Ref_L1 ρ φ Q) v.1 w h) ?_ w h I
  rintro ⟨c,z⟩ S hS HB w h I
  refine Tx.slices_IndexFunc_seal_Ref_seal_Ref_L1_in _ _ _ _ _ _ _ _ ?_
  try simp only [nrm_v]
  exact B1_r (c:=c) (w:=w) hφ I HB (fun c w h z I H=>hS _ H w h I) k
end slices_IndexFunc_seal_Ref_seal_Ref
def slices_IndexFunc_seal_Ref_seal_Ref {Z:Type} (φ:seal_Ref→Z→(Bool→Z→Prop)→Prop) (s0:List seal_Ref) (z:Z) (Q:slices_IndexFunc_seal_Ref_seal_Ref.QT Z):Prop:=
  slices_IndexFunc_seal_Ref_seal_Ref.L1 φ Q {slices_IndexFunc_seal_Ref_seal_Ref.v0 with s0:=s0,v7:=(s0.length:Int),v8:=(0:Int)} z
theorem slices_IndexFunc_seal_Ref_seal_Ref_r {Z:Type} {C:Z→At} {φ':seal_Ref→Z→(Bool→Z→Prop)→Prop} {φ:Value→List Value→Hp→(Value→Hp→Prop)→Prop} {s0:List seal_Ref} {a_s0:Option Addr} {c_s0:Nat} {n_s0:Nat} {X_s0:At} {f1:Value} {z:Z} {Q':slices_IndexFunc_seal_Ref_seal_Ref.QT Z} {Q:slices_IndexFunc_seal_Ref_seal_Ref.RT} (hφ: ∀ {x0:seal_Ref} {z:Z} {h:Hp} {A:List At} {K':Bool→Z→Prop} {K:Bool→Hp→Prop},Inv h (C z::A)→φ' x0 z K'→(∀ (y:Bool) (h':Hp) (z':Z),Inv h' (C z'::A)→K' y z'→K y h')→φ f1 [.agg (([.int .i64 x0.Place, .int .u32 x0.Epoch]:List Value)++lumpV .u8 32 x0.Digest.toList).toArray] h (fun v h'=>isB v fun y=>K y h')) (hX_s0:Rd R_seal_Ref X_s0 a_s0 n_s0 c_s0 s0) (I:Inv h (X_s0::C z::A)) (H:slices_IndexFunc_seal_Ref_seal_Ref φ' s0 z Q')
    (k:slices_IndexFunc_seal_Ref_seal_Ref.kt C ρ X_s0 f1 A Q' Q):Tx.slices_IndexFunc_seal_Ref_seal_Ref ρ φ ⟨a_s0,n_s0,c_s0⟩ f1 h Q:=by
  obtain rfl:=rd_len hX_s0 I
  unfold Tx.slices_IndexFunc_seal_Ref_seal_Ref
  unfold slices_IndexFunc_seal_Ref_seal_Ref at H
  replace I:=I.pull1.pull1
  exact slices_IndexFunc_seal_Ref_seal_Ref.L1_r (c:= {slices_IndexFunc_seal_Ref_seal_Ref.v0 with s0:=s0,v7:=(s0.length:Int),v8:=(0:Int)}) (w:= {slices_IndexFunc_seal_Ref_seal_Ref.w0 with a_s0:=a_s0,c_s0:=c_s0}) hφ ⟨hX_s0,I⟩ H k
def slices_ContainsFunc_seal_Ref_seal_Ref {Z:Type} (φ:seal_Ref→Z→(Bool→Z→Prop)→Prop) (s0:List seal_Ref) (z:Z) (Q:Bool→Z→Prop):Prop:=
  slices_IndexFunc_seal_Ref_seal_Ref φ s0 z fun r_3 z_4=>
  Q (decide (r_3≥(0:Int))) z_4
theorem slices_ContainsFunc_seal_Ref_seal_Ref_r {Z:Type} {C:Z→At} {φ':seal_Ref→Z→(Bool→Z→Prop)→Prop} {φ:Value→List Value→Hp→(Value→Hp→Prop)→Prop} {s0:List seal_Ref} {a_s0:Option Addr} {c_s0:Nat} {n_s0:Nat} {X_s0:At} {f1:Value} {z:Z} {Q':Bool→Z→Prop} {Q:Bool→Hp→Prop} (hφ: ∀ {x0:seal_Ref} {z:Z} {h:Hp} {A:List At} {K':Bool→Z→Prop} {K:Bool→Hp→Prop},Inv h (C z::A)→φ' x0 z K'→(∀ (y:Bool) (h':Hp) (z':Z),Inv h' (C z'::A)→K' y z'→K y h')→φ f1 [.agg (([.int .i64 x0.Place, .int .u32 x0.Epoch]:List Value)++lumpV .u8 32 x0.Digest.toList).toArray] h (fun v h'=>isB v fun y=>K y h')) (hX_s0:Rd R_seal_Ref X_s0 a_s0 n_s0 c_s0 s0) (I:Inv h (X_s0::C z::A)) (H:slices_ContainsFunc_seal_Ref_seal_Ref φ' s0 z Q')
    (k: ∀ (r0:Bool) (h':Hp) (z':Z),Inv h' (X_s0::C z'::A)→Q' r0 z'→Q r0 h'):Tx.slices_ContainsFunc_seal_Ref_seal_Ref ρ φ ⟨a_s0,n_s0,c_s0⟩ f1 h Q:=by
  obtain rfl:=rd_len hX_s0 I
  unfold Tx.slices_ContainsFunc_seal_Ref_seal_Ref
  unfold slices_ContainsFunc_seal_Ref_seal_Ref at H
  replace I:=I.pull1.pull1
  refine slices_IndexFunc_seal_Ref_seal_Ref_r (s0:=s0) (C:=C) (φ':=φ') (z:=z) hφ hX_s0 I H fun r_3 h z_4 I H=> ?_
  replace I:=I.pull1.pull1
  exact k (decide (r_3≥(0:Int))) _ z_4 I H
namespace commit_May
structure V where
  nodes1:List commit_Node
  changes2:List commit_Change
  s3:shape_Shape
  last7:Int
  v15:List commit_Change
  v16:Int
  v17:Int
  c9:commit_Change
  v37:Bool
  v44:List Int
  v45:Int
  v46:Int
  v71:Bool
structure W where
  a_nodes1:Option Addr
  c_nodes1:Nat
  a_changes2:Option Addr
  c_changes2:Nat
  p_s3:Addr
  a_s3:Option Addr
  c_s3:Nat
  a_v15:Option Addr
  c_v15:Nat
  p_c9:Addr
  a_c9_1:Option Addr
  c_c9_1:Nat
  a_v44:Option Addr
  c_v44:Nat
def v0:V:=⟨[],[],(⟨[]⟩:shape_Shape),0,[],0,0,(⟨(0:Int),[]⟩:commit_Change),false,[],0,0,false⟩
def w0:W:=⟨none,0,none,0,⟨0,0,none⟩,none,0,none,0,⟨0,0,none⟩,none,0,none,0⟩
abbrev QT:=Bool→Prop
abbrev RT:=Bool→Hp→Prop
def kt (ρ:Ids) (X_nodes1:At) (X_changes2:At) (A:List At) (Q':QT) (Q:RT):Prop:=
  ∀ (r0:Bool) (h':Hp),Inv h' (X_nodes1::X_changes2::A)→Q' r0→Q r0 h'
def I1 (ρ:Ids) (X_nodes1:At) (X_changes2:At) (c:V) (w:W) (A:List At) (h:Hp):Prop:=
  Rd R_commit_Node X_nodes1 w.a_nodes1 c.nodes1.length w.c_nodes1 c.nodes1∧Rd R_commit_Change X_changes2 w.a_changes2 c.changes2.length w.c_changes2 c.changes2∧Rd R_commit_Change X_changes2 w.a_v15 c.v15.length w.c_v15 c.v15∧Inv h (X_nodes1::X_changes2::blk w.p_s3 (ρ.T 11) [.one (.slice w.a_s3 c.s3.begins.length w.c_s3)]::roS (rI .i64) w.a_s3 c.s3.begins.length w.c_s3 c.s3.begins::A)
abbrev Y1:=Sl→Sl→Addr→Int→Sl→Int→Int→Hp→Prop
abbrev T1 (X_nodes1:At) (X_changes2:At) (S:Y1) (c:V) (w:W) (h:Hp):Prop:=S ⟨w.a_nodes1,c.nodes1.length,w.c_nodes1⟩ ⟨w.a_changes2,c.changes2.length,w.c_changes2⟩ w.p_s3 c.last7 ⟨w.a_v15,c.v15.length,w.c_v15⟩ c.v16 c.v17 h
def k1t (ρ:Ids) (X_nodes1:At) (X_changes2:At) (A:List At) (S':V→Prop) (S:Y1):Prop:= ∀ (c:V) (w:W) (h:Hp),I1 ρ X_nodes1 X_changes2 c w A h→S' c→T1 X_nodes1 X_changes2 S c w h
def I2 (ρ:Ids) (X_nodes1:At) (X_changes2:At) (c:V) (w:W) (A:List At) (h:Hp):Prop:=
  Rd R_commit_Node X_nodes1 w.a_nodes1 c.nodes1.length w.c_nodes1 c.nodes1∧Rd R_commit_Change X_changes2 w.a_changes2 c.changes2.length w.c_changes2 c.changes2∧Rd R_commit_Change X_changes2 w.a_v15 c.v15.length w.c_v15 c.v15∧Inv h (X_nodes1::X_changes2::blk w.p_s3 (ρ.T 11) [.one (.slice w.a_s3 c.s3.begins.length w.c_s3)]::roS (rI .i64) w.a_s3 c.s3.begins.length w.c_s3 c.s3.begins::blk w.p_c9 (ρ.T 17) [.one (.int .i64 c.c9.Page), .one (.slice w.a_c9_1 c.c9.Bytes.length w.c_c9_1)]::roS (rI .u8) w.a_c9_1 c.c9.Bytes.length w.c_c9_1 c.c9.Bytes::A)
def I3 (ρ:Ids) (X_nodes1:At) (X_changes2:At) (c:V) (w:W) (A:List At) (h:Hp):Prop:=
  Rd R_commit_Node X_nodes1 w.a_nodes1 c.nodes1.length w.c_nodes1 c.nodes1∧Inv h (X_nodes1::X_changes2::blk w.p_s3 (ρ.T 11) [.one (.slice w.a_s3 c.s3.begins.length w.c_s3)]::roS (rI .i64) w.a_s3 c.s3.begins.length w.c_s3 c.s3.begins::ownS (rI .i64) w.a_v44 c.v44.length w.c_v44 c.v44::A)
abbrev Y3:=Sl→Addr→Sl→Int→Int→Hp→Prop
abbrev T3 (X_nodes1:At) (X_changes2:At) (S:Y3) (c:V) (w:W) (h:Hp):Prop:=S ⟨w.a_nodes1,c.nodes1.length,w.c_nodes1⟩ w.p_s3 ⟨w.a_v44,c.v44.length,w.c_v44⟩ c.v45 c.v46 h
def k3t (ρ:Ids) (X_nodes1:At) (X_changes2:At) (A:List At) (S':V→Prop) (S:Y3):Prop:= ∀ (c:V) (w:W) (h:Hp),I3 ρ X_nodes1 X_changes2 c w A h→S' c→T3 X_nodes1 X_changes2 S c w h
def I4 (ρ:Ids) (X_nodes1:At) (X_changes2:At) (c:V) (w:W) (A:List At) (h:Hp):Prop:=
  Rd R_commit_Node X_nodes1 w.a_nodes1 c.nodes1.length w.c_nodes1 c.nodes1∧Inv h (X_nodes1::X_changes2::blk w.p_s3 (ρ.T 11) [.one (.slice w.a_s3 c.s3.begins.length w.c_s3)]::roS (rI .i64) w.a_s3 c.s3.begins.length w.c_s3 c.s3.begins::ownS (rI .i64) w.a_v44 c.v44.length w.c_v44 c.v44::A)
variable {X_nodes1 X_changes2:At} {c:V} {w:W} {Q':QT} {Q:RT} {S1' S3':V→Prop} {S1:Y1} {S3:Y3}
def K2 (S1:V→Prop) (Q:QT) (c:V):Prop:=
  br c.v37
  (Q false)
  (S1 {c with last7:=c.c9.Page,v17:=(IntKind.wrap .i64 (c.v17+(1:Int)))})
theorem K2_r (I:I2 ρ X_nodes1 X_changes2 c w A h) (H:K2 S1' Q' c) (kS1:k1t ρ X_nodes1 X_changes2 A S1' S1) (k:kt ρ X_nodes1 X_changes2 A Q' Q):Tx.commit_May_K2 ρ S1 Q ⟨w.a_nodes1,c.nodes1.length,w.c_nodes1⟩ ⟨w.a_changes2,c.changes2.length,w.c_changes2⟩ w.p_s3 w.p_c9 ⟨w.a_v15,c.v15.length,w.c_v15⟩ c.v16 c.v17 c.v37 h:=by
  obtain ⟨hX_nodes1,hX_changes2,hX_v15,I⟩:=I
  unfold Tx.commit_May_K2
  unfold K2 at H
  refine br_r H (fun hb H=> ?_) (fun hb H=> ?_)
  · replace I := I.pull2.drop1
    replace I:=I.pull2.drop1
    replace I:=I.pull2.drop1
    replace I:=I.pull2.drop1
    replace I:=I.pull1.pull1
    exact k false _ I H
  · refine ldI_r (I.pull4.cell 0 0 rfl) ?_
    replace I:=I.pull3.dupR
    replace I:=I.pull1.drop1
    replace I:=I.pull4.drop1
    replace I:=I.pull4.drop1
    replace I:=I.pull3.pull3.pull3
    exact kS1 {c with last7:=c.c9.Page,v17:=(IntKind.wrap .i64 (c.v17+(1:Int)))} w _ ⟨hX_nodes1,hX_changes2,hX_v15,I⟩ H
def K4 (S3:V→Prop) (Q:QT) (c:V):Prop:=
  br c.v71
  (Q false)
  (S3 {c with v46:=(IntKind.wrap .i64 (c.v46+(1:Int)))})
theorem K4_r (I:I4 ρ X_nodes1 X_changes2 c w A h) (H:K4 S3' Q' c) (kS3:k3t ρ X_nodes1 X_changes2 A S3' S3) (k:kt ρ X_nodes1 X_changes2 A Q' Q):Tx.commit_May_K4 ρ S3 Q ⟨w.a_nodes1,c.nodes1.length,w.c_nodes1⟩ w.p_s3 ⟨w.a_v44,c.v44.length,w.c_v44⟩ c.v45 c.v46 c.v71 h:=by
  obtain ⟨hX_nodes1,I⟩:=I
  unfold Tx.commit_May_K4
  unfold K4 at H
  refine br_r H (fun hb H=> ?_) (fun hb H=> ?_)
  · replace I := I.pull2.drop1
    replace I:=I.pull2.drop1
    replace I:=I.pull2.drop1
    replace I:=I.pull1.pull1
    exact k false _ I H
  · replace I := I.pull3.dupR
    replace I:=I.pull1.drop1
    replace I:=I.pull4.pull1.pull4.pull4.pull4
    exact kS3 {c with v46:=(IntKind.wrap .i64 (c.v46+(1:Int)))} w _ ⟨hX_nodes1,I⟩ H
def B3 (S3:V→Prop) (Q:QT) (c:V):Prop:=
  br (decide (c.v46<c.v45))
  (ixP c.v44 c.v46 fun x_52=>
  commit_Find c.nodes1 x_52 fun r_58 r_61=>
  br (!r_61)
  (K4 S3 Q {c with v71:=true})
  (shape_Shape_Kids c.s3 x_52 fun r_65=>
  br ((r_58.length:Int) !=(r_65.length:Int))
  (K4 S3 Q {c with v71:=true})
  (slices_ContainsFunc_seal_Ref_seal_Ref (fun x0 _ K=>commit_May_1 x0 (fun r=>K r ())) r_58 () fun r_71 z_72=>
  K4 S3 Q {c with v71:=r_71})))
  (Q true)
def L3 (Q:QT) (c:V):Prop:=Lf (fun S=>B3 S Q) c
theorem L3_in {Q:QT} {c:V} (H:B3 (L3 Q) Q c):L3 Q c:=Lf.fold H
theorem B3_r (I : I3 ρ X_nodes1 X_changes2 c w A h) (H : B3 S3' Q' c) (kS3 : k3t ρ X_nodes1 X_changes2 A S3' S3) (k : kt ρ X_nodes1 X_changes2 A Q' Q) : T3 X_nodes1 X_changes2 (Tx.commit_May_B3 ρ S3 Q) c w h := by
  obtain ⟨hX_nodes1,I⟩:=I
  unfold T3 Tx.commit_May_B3
  unfold B3 at H
  refine br_r H (fun hb H=> ?_) (fun hb H=> ?_)
  · refine ixI_a rd_own I.pull4 (ixP_keep H) fun p_53 x_52 he_54 hb_55 hc_56 H => ?_
    obtain ⟨hg_57,H⟩:=H
    refine ldI_r hc_56 ?_
    refine commit_Find_r (nodes0:=c.nodes1) (item1:=x_52) hX_nodes1 I H fun r_58 a_59 c_60 r_61 h I H=> ?_
    refine br_r H (fun hb H=> ?_) (fun hb H=> ?_)
    · replace I := I.pull4.dupR
      replace I:=I.pull1.drop1
      replace I:=I.pull1.drop1
      replace I:=I.pull4.pull1.pull4.pull4.pull4
      exact K4_r (c:= {c with v71:=true}) (w:=w) ⟨hX_nodes1,I⟩ H kS3 k
    · refine ldS_r (I.pull3.cell 0 0 rfl) ?_
      replace I:=I.pull4.dupR
      try simp only [nrm_v]
      refine shape_Shape_Kids_r (s0:=c.s3) (item1:=x_52) I H fun r_65 a_66 c_67 h I H=> ?_
      refine br_r H (fun hb H=> ?_) (fun hb H=> ?_)
      · replace I := I.pull1.dupR
        replace I:=I.pull1.drop1
        replace I:=I.pull1.drop1
        replace I:=I.pull1.drop1
        replace I:=I.pull4.pull1.pull4.pull4.pull4
        exact K4_r (c:= {c with v71:=true}) (w:=w) ⟨hX_nodes1,I⟩ H kS3 k
      · replace I := Inv.bigI (As := []) I
        replace I:=I.pull3
        refine slices_ContainsFunc_seal_Ref_seal_Ref_r (s0:=r_58) (C:=(fun _=>bigA [])) (φ':=(fun x0 _ K=>commit_May_1 x0 (fun r=>K r ()))) (z:=()) (by
        intro _ z h A K' K I H k
        replace I:=I.bigE
        refine phi_one ?_
        unfold Tx.commit_May_1_S
        dsimp only [List.cons_append,List.nil_append,List.toList_toArray,tI,tA,tN,tS,tB,tT,tP,tM,tV,tG,cnd,sameKind]
        first | refine Laws.tL_in0 ?_ | refine Laws.tL_in ?_
        try dsimp only [List.cons_append,List.nil_append,tI,tA,tN,tS,tB,tT,tP,tM,tV,tG,cnd,sameKind]
        refine commit_May_1_r I H fun r h I H=> ?_
        exact ⟨_,rfl,k _ _ () (Inv.bigI (As:=[]) I) H⟩) rd_own I H fun r_71 h z_72 I H=> ?_
        replace I:=I.pull1.bigE
        replace I:=I.pull2.dupR
        replace I:=I.pull1.drop1
        replace I:=I.pull1.drop1
        replace I:=I.pull1.drop1
        replace I:=I.pull4.pull1.pull4.pull4.pull4
        exact K4_r (c:= {c with v71:=r_71}) (w:=w) ⟨hX_nodes1,I⟩ H kS3 k
  · replace I := I.pull2.drop1
    replace I:=I.pull2.drop1
    replace I:=I.pull2.drop1
    replace I:=I.pull1.pull1
    exact k true _ I H
theorem L3_r (I:I3 ρ X_nodes1 X_changes2 c w A h) (H:L3 Q' c) (k:kt ρ X_nodes1 X_changes2 A Q' Q):T3 X_nodes1 X_changes2 (Tx.commit_May_L3 ρ Q) c w h:=by
  refine Lf.ind H (fun v=> ∀ (w:W) (h:Hp),I3 ρ X_nodes1 X_changes2 v w A h→T3 X_nodes1 X_changes2 (Tx.commit_May_L3 ρ Q) v w h) ?_ w h I
  rintro c S hS HB w h I
  refine Tx.commit_May_L3_in _ _ _ _ _ _ _ _ ?_
  try simp only [nrm_v]
  exact B3_r (c:=c) (w:=w) I HB (fun c w h I H=>hS _ H w h I) k
def B1 (S1:V→Prop) (Q:QT) (c:V):Prop:=
  br (decide (c.v17<c.v16))
  (ixP c.v15 c.v17 fun x_11=>
  br (decide (x_11.Page≤c.last7))
  (K2 S1 Q {c with c9:=x_11,v37:=true})
  (shape_Shape_Pages c.s3 fun r_25=>
  br (decide (x_11.Page≥r_25))
  (K2 S1 Q {c with c9:=x_11,v37:=true})
  (K2 S1 Q {c with c9:=x_11,v37:=((x_11.Bytes.length:Int) !=(256:Int))})))
  (commit_pages c.changes2 fun r_30=>
  commit_Need c.s3 r_30 fun r_35=>
  L3 Q {c with v44:=r_35,v45:=(r_35.length:Int),v46:=(0:Int)})
def L1 (Q:QT) (c:V):Prop:=Lf (fun S=>B1 S Q) c
theorem L1_in {Q:QT} {c:V} (H:B1 (L1 Q) Q c):L1 Q c:=Lf.fold H
theorem B1_r (I : I1 ρ X_nodes1 X_changes2 c w A h) (H : B1 S1' Q' c) (kS1 : k1t ρ X_nodes1 X_changes2 A S1' S1) (k : kt ρ X_nodes1 X_changes2 A Q' Q) : T1 X_nodes1 X_changes2 (Tx.commit_May_B1 ρ S1 Q) c w h := by
  obtain ⟨hX_nodes1,hX_changes2,hX_v15,I⟩:=I
  unfold T1 Tx.commit_May_B1
  unfold B1 at H
  refine br_r H (fun hb H=> ?_) (fun hb H=> ?_)
  · refine ixcommit_Change hX_v15 I.pull1 H fun p_12 x_11 a_17 c_18 he_13 hb_14 hc_15 hc_16 I H => ?_
    refine ldI_r hc_15 ?_
    refine ldS_r hc_16 ?_
    refine al_r [.one (.int .i64 (0:Int)), .one (.slice none 0 0)] rfl I fun p_20 h I=> ?_
    refine stA_r I 0 2 0 [.one (.int .i64 x_11.Page), .one (.slice a_17 x_11.Bytes.length c_18)] rfl rfl rfl (by first | exact all_segs rfl | exact all_one (by simp [segs,Seg.cells,allOne,allOne_append,allOne_lump,Value.oneCell'])) fun h (I:Inv h (blk p_20 (ρ.T 17) [.one (.int .i64 x_11.Page), .one (.slice a_17 x_11.Bytes.length c_18)]::_))=> ?_
    refine ldI_r (I.cell 0 0 rfl) ?_
    refine br_r H (fun hb H=> ?_) (fun hb H=> ?_)
    · replace I := I.pull5.dupR
      replace I:=I.pull3.dupR
      replace I:=I.pull1.drop1
      replace I:=I.pull2.drop1
      replace I:=I.pull2.pull2.pull5.pull4.pull5
      exact K2_r (c:= {c with c9:=x_11,v37:=true}) (w:= {w with p_c9:=p_20,a_c9_1:=a_17,c_c9_1:=c_18}) ⟨hX_nodes1,hX_changes2,hX_v15,I⟩ H kS1 k
    · refine ldI_r (I.cell 0 0 rfl) ?_
      refine ldS_r (I.pull4.cell 0 0 rfl) ?_
      replace I:=I.pull5.dupR
      try simp only [nrm_v]
      refine shape_Shape_Pages_r (s0:=c.s3) I H fun r_25 h I H=> ?_
      refine ⟨I.pull1.cell 0 0 rfl, ?_⟩
      refine br_r H (fun hb H=> ?_) (fun hb H=> ?_)
      · replace I := I.dupR
        replace I:=I.pull3.dupR
        replace I:=I.pull1.drop1
        replace I:=I.pull2.drop1
        replace I:=I.pull2.pull2.pull5.pull4.pull5
        exact K2_r (c:= {c with c9:=x_11,v37:=true}) (w:= {w with p_c9:=p_20,a_c9_1:=a_17,c_c9_1:=c_18}) ⟨hX_nodes1,hX_changes2,hX_v15,I⟩ H kS1 k
      · refine ldS_r (I.pull1.cell 1 1 rfl) ?_
        replace I:=I.dupR
        replace I:=I.pull3.dupR
        replace I:=I.pull1.drop1
        replace I:=I.pull2.drop1
        replace I:=I.pull2.pull2.pull5.pull4.pull5
        exact K2_r (c:= {c with c9:=x_11,v37:=((x_11.Bytes.length:Int) !=(256:Int))}) (w:= {w with p_c9:=p_20,a_c9_1:=a_17,c_c9_1:=c_18}) ⟨hX_nodes1,hX_changes2,hX_v15,I⟩ H kS1 k
  · refine ldS_r (I.pull2.cell 0 0 rfl) ?_
    replace I:=I.pull1
    refine commit_pages_r (changes0:=c.changes2) hX_changes2 I H fun r_30 a_31 c_32 h I H=> ?_
    refine ⟨⟨I.pull3.cell 0 0 rfl,trivial⟩, ?_⟩
    replace I:=I.pull4.dupR
    replace I:=I.pull2.pull1
    try simp only [nrm_v]
    refine commit_Need_r (s0:=c.s3) (pages1:=r_30) rd_own I H fun r_35 a_36 c_37 h I H=> ?_
    replace I:=I.pull2.dupR
    replace I:=I.pull1.drop1
    replace I:=I.pull2.drop1
    replace I:=I.pull1.pull1.pull4.pull3.pull4
    exact L3_r (c:= {c with v44:=r_35,v45:=(r_35.length:Int),v46:=(0:Int)}) (w:= {w with a_v44:=a_36,c_v44:=c_37}) ⟨hX_nodes1,I⟩ H k
theorem L1_r (I:I1 ρ X_nodes1 X_changes2 c w A h) (H:L1 Q' c) (k:kt ρ X_nodes1 X_changes2 A Q' Q):T1 X_nodes1 X_changes2 (Tx.commit_May_L1 ρ Q) c w h:=by
  refine Lf.ind H (fun v=> ∀ (w:W) (h:Hp),I1 ρ X_nodes1 X_changes2 v w A h→T1 X_nodes1 X_changes2 (Tx.commit_May_L1 ρ Q) v w h) ?_ w h I
  rintro c S hS HB w h I
  refine Tx.commit_May_L1_in _ _ _ _ _ _ _ _ _ _ ?_
  try simp only [nrm_v]
  exact B1_r (c:=c) (w:=w) I HB (fun c w h I H=>hS _ H w h I) k
end commit_May
def commit_May (s0:shape_Shape) (nodes1:List commit_Node) (changes2:List commit_Change) (Q:commit_May.QT):Prop:=
  commit_May.L1 Q {commit_May.v0 with nodes1:=nodes1,changes2:=changes2,s3:=s0,last7:=(-1:Int),v15:=changes2,v16:=(changes2.length:Int),v17:=(0:Int)}
theorem commit_May_r {s0:shape_Shape} {nodes1:List commit_Node} {changes2:List commit_Change} {a_s0_0:Option Addr} {c_s0_0:Nat} {n_s0_0:Nat} {a_nodes1:Option Addr} {c_nodes1:Nat} {n_nodes1:Nat} {X_nodes1:At} {a_changes2:Option Addr} {c_changes2:Nat} {n_changes2:Nat} {X_changes2:At} {Q':commit_May.QT} {Q:commit_May.RT} (hX_nodes1:Rd R_commit_Node X_nodes1 a_nodes1 n_nodes1 c_nodes1 nodes1) (hX_changes2:Rd R_commit_Change X_changes2 a_changes2 n_changes2 c_changes2 changes2) (I:Inv h (roS (rI .i64) a_s0_0 n_s0_0 c_s0_0 s0.begins::X_nodes1::X_changes2::A)) (H:commit_May s0 nodes1 changes2 Q')
    (k:commit_May.kt ρ X_nodes1 X_changes2 A Q' Q):Tx.commit_May ρ ⟨a_s0_0,n_s0_0,c_s0_0⟩ ⟨a_nodes1,n_nodes1,c_nodes1⟩ ⟨a_changes2,n_changes2,c_changes2⟩ h Q:=by
  obtain rfl:=ro_len I
  obtain rfl:=rd_len hX_nodes1 I.pull1
  obtain rfl:=rd_len hX_changes2 I.pull2
  unfold Tx.commit_May
  unfold commit_May at H
  refine al_r [.one (.slice a_s0_0 s0.begins.length c_s0_0)] rfl I fun p_4 h I=> ?_
  replace I:=I.pull1.dupR
  replace I:=I.pull1.drop1
  replace I:=I.pull1.pull3.pull3
  exact commit_May.L1_r (c:= {commit_May.v0 with nodes1:=nodes1,changes2:=changes2,s3:=s0,last7:=(-1:Int),v15:=changes2,v16:=(changes2.length:Int),v17:=(0:Int)}) (w:= {commit_May.w0 with a_nodes1:=a_nodes1,c_nodes1:=c_nodes1,a_changes2:=a_changes2,c_changes2:=c_changes2,p_s3:=p_4,a_s3:=a_s0_0,c_s3:=c_s0_0,a_v15:=a_changes2,c_v15:=c_changes2}) ⟨hX_nodes1,hX_changes2,hX_changes2,I⟩ H k
namespace shape_Shape_Block
structure V where
  item1:Int
  place2:Int
  v18:Bool
structure W where
  mk::
def v0:V:=⟨0,0,false⟩
def w0:W:=⟨⟩
abbrev QT:=Int→Prop
abbrev RT:=Int→Hp→Prop
def kt (ρ:Ids) (A:List At) (Q':QT) (Q:RT):Prop:=
  ∀ (r0:Int) (h':Hp),Inv h' (A)→Q' r0→Q r0 h'
def I1 (ρ:Ids) (c:V) (w:W) (A:List At) (h:Hp):Prop:=
  Inv h (A)
variable {c:V} {w:W} {Q':QT} {Q:RT}
def K1 (Q:QT) (c:V):Prop:=
  br c.v18
  (Q (-1:Int))
  (Q (IntKind.wrap .i64 ((IntKind.wrap .i64 ((2:Int)+(IntKind.wrap .i64 ((2:Int)*c.item1))))+c.place2)))
theorem K1_r (I:I1 ρ c w A h) (H:K1 Q' c) (k:kt ρ A Q' Q):Tx.shape_Shape_Block_K1 ρ Q c.item1 c.place2 c.v18 h:=by
  unfold I1 at I
  unfold Tx.shape_Shape_Block_K1
  unfold K1 at H
  refine br_r H (fun hb H=> ?_) (fun hb H=> ?_)
  · exact k (-1:Int) _ I H
  · exact k (IntKind.wrap .i64 ((IntKind.wrap .i64 ((2:Int)+(IntKind.wrap .i64 ((2:Int)*c.item1))))+c.place2)) _ I H
end shape_Shape_Block
def shape_Shape_Block (s0:shape_Shape) (item1:Int) (place2:Int) (Q:shape_Shape_Block.QT):Prop:=
  shape_Shape_Level s0 item1 fun r_5=>
  br (decide (r_5<(0:Int)))
  (shape_Shape_Block.K1 Q {shape_Shape_Block.v0 with item1:=item1,place2:=place2,v18:=true})
  (br (decide (place2<(0:Int)))
  (shape_Shape_Block.K1 Q {shape_Shape_Block.v0 with item1:=item1,place2:=place2,v18:=true})
  (shape_Shape_Block.K1 Q {shape_Shape_Block.v0 with item1:=item1,place2:=place2,v18:=(decide (place2>(1:Int)))}))
theorem shape_Shape_Block_r {s0:shape_Shape} {item1:Int} {place2:Int} {a_s0_0:Option Addr} {c_s0_0:Nat} {n_s0_0:Nat} {Q':shape_Shape_Block.QT} {Q:shape_Shape_Block.RT} (I:Inv h (roS (rI .i64) a_s0_0 n_s0_0 c_s0_0 s0.begins::A)) (H:shape_Shape_Block s0 item1 place2 Q')
    (k:shape_Shape_Block.kt ρ A Q' Q):Tx.shape_Shape_Block ρ ⟨a_s0_0,n_s0_0,c_s0_0⟩ item1 place2 h Q:=by
  obtain rfl:=ro_len I
  unfold Tx.shape_Shape_Block
  unfold shape_Shape_Block at H
  refine al_r [.one (.slice a_s0_0 s0.begins.length c_s0_0)] rfl I fun p_2 h I=> ?_
  refine ldS_r (I.cell 0 0 rfl) ?_
  replace I:=I.pull1.dupR
  try simp only [nrm_v]
  refine shape_Shape_Level_r (s0:=s0) (item1:=item1) I H fun r_5 h I H=> ?_
  refine br_r H (fun hb H=> ?_) (fun hb H=> ?_)
  · replace I := I.drop1
    replace I:=I.drop1
    exact shape_Shape_Block.K1_r (c:= {shape_Shape_Block.v0 with item1:=item1,place2:=place2,v18:=true}) (w:=shape_Shape_Block.w0) I H k
  · refine br_r H (fun hb H => ?_) (fun hb H => ?_)
    · replace I := I.drop1
      replace I:=I.drop1
      exact shape_Shape_Block.K1_r (c:= {shape_Shape_Block.v0 with item1:=item1,place2:=place2,v18:=true}) (w:=shape_Shape_Block.w0) I H k
    · replace I := I.drop1
      replace I:=I.drop1
      exact shape_Shape_Block.K1_r (c:= {shape_Shape_Block.v0 with item1:=item1,place2:=place2,v18:=(decide (place2>(1:Int)))}) (w:=shape_Shape_Block.w0) I H k
def cipher_join (b0:List Int) (Q:Int→Prop):Prop:=
  ixP b0 (0:Int) fun x_2=>
  ixP b0 (1:Int) fun x_8=>
  ixP b0 (2:Int) fun x_14=>
  ixP b0 (3:Int) fun x_20=>
  Q (IntKind.wrap .u32 (((BitVec.ofInt (IntKind.bits .u32) (IntKind.wrap .u32 (((BitVec.ofInt (IntKind.bits .u32) (IntKind.wrap .u32 (((BitVec.ofInt (IntKind.bits .u32) (IntKind.wrap .u32 x_2) ||| (BitVec.ofInt (IntKind.bits .u32) (IntKind.wrap .u32 ((IntKind.wrap .u32 x_8)*2 ^ (min (Int.toNat (8:Int)) (IntKind.bits .u32)))))).toNat:Int))) ||| (BitVec.ofInt (IntKind.bits .u32) (IntKind.wrap .u32 ((IntKind.wrap .u32 x_14)*2 ^ (min (Int.toNat (16:Int)) (IntKind.bits .u32)))))).toNat:Int))) ||| (BitVec.ofInt (IntKind.bits .u32) (IntKind.wrap .u32 ((IntKind.wrap .u32 x_20)*2 ^ (min (Int.toNat (24:Int)) (IntKind.bits .u32)))))).toNat:Int)))
theorem cipher_join_r {b0:List Int} {a_b0:Option Addr} {c_b0:Nat} {n_b0:Nat} {X_b0:At} {Q':Int→Prop} {Q:Int→Hp→Prop} (hX_b0:Rd (rI .u8) X_b0 a_b0 n_b0 c_b0 b0) (I:Inv h (X_b0::A)) (H:cipher_join b0 Q')
    (k: ∀ (r0:Int) (h':Hp),Inv h' (X_b0::A)→Q' r0→Q r0 h'):Tx.cipher_join ρ ⟨a_b0,n_b0,c_b0⟩ h Q:=by
  obtain rfl:=rd_len hX_b0 I
  unfold Tx.cipher_join
  unfold cipher_join at H
  refine ixI_a hX_b0 I (ixP_keep H) fun p_3 x_2 he_4 hb_5 hc_6 H=> ?_
  obtain ⟨hg_7,H⟩:=H
  refine ldI_r hc_6 ?_
  refine ixI_a hX_b0 I (ixP_keep H) fun p_9 x_8 he_10 hb_11 hc_12 H=> ?_
  obtain ⟨hg_13,H⟩:=H
  refine ldI_r hc_12 ?_
  refine ⟨by decide, ?_⟩
  refine ixI_a hX_b0 I (ixP_keep H) fun p_15 x_14 he_16 hb_17 hc_18 H=> ?_
  obtain ⟨hg_19,H⟩:=H
  refine ldI_r hc_18 ?_
  refine ⟨by decide, ?_⟩
  refine ixI_a hX_b0 I (ixP_keep H) fun p_21 x_20 he_22 hb_23 hc_24 H=> ?_
  obtain ⟨hg_25,H⟩:=H
  refine ldI_r hc_24 ?_
  refine ⟨by decide, ?_⟩
  exact k (IntKind.wrap .u32 (((BitVec.ofInt (IntKind.bits .u32) (IntKind.wrap .u32 (((BitVec.ofInt (IntKind.bits .u32) (IntKind.wrap .u32 (((BitVec.ofInt (IntKind.bits .u32) (IntKind.wrap .u32 x_2) ||| (BitVec.ofInt (IntKind.bits .u32) (IntKind.wrap .u32 ((IntKind.wrap .u32 x_8)*2 ^ (min (Int.toNat (8:Int)) (IntKind.bits .u32)))))).toNat:Int))) ||| (BitVec.ofInt (IntKind.bits .u32) (IntKind.wrap .u32 ((IntKind.wrap .u32 x_14)*2 ^ (min (Int.toNat (16:Int)) (IntKind.bits .u32)))))).toNat:Int))) ||| (BitVec.ofInt (IntKind.bits .u32) (IntKind.wrap .u32 ((IntKind.wrap .u32 x_20)*2 ^ (min (Int.toNat (24:Int)) (IntKind.bits .u32)))))).toNat:Int))) _ I H
namespace cipher_start
structure V where
  counter2:Int
  key3:Vector Int 32
  nonce4:Vector Int 12
  v6:Vector Int 16
  w7:Vector Int 16
  v11:Int
  v24:Int
structure W where
  p_key3:Addr
  p_nonce4:Addr
  p_v6:Addr
  p_w7:Addr
def v0:V:=⟨0,Vector.replicate 32 0,Vector.replicate 12 0,Vector.replicate 16 0,Vector.replicate 16 0,0,0⟩
def w0:W:=⟨⟨0,0,none⟩,⟨0,0,none⟩,⟨0,0,none⟩,⟨0,0,none⟩⟩
abbrev QT:=(Vector Int 16)→Prop
abbrev RT:=List Int→Hp→Prop
def kt (ρ:Ids) (A:List At) (Q':QT) (Q:RT):Prop:=
  ∀ (r0:Vector Int 16) (h':Hp),Inv h' (A)→Q' r0→Q r0.toList h'
def I1 (ρ:Ids) (c:V) (w:W) (A:List At) (h:Hp):Prop:=
  Inv h (blk w.p_key3 (ρ.T 19) [.vec .u8 32 c.key3]::blk w.p_nonce4 (ρ.T 22) [.vec .u8 12 c.nonce4]::blk w.p_v6 (ρ.T 24) [.vec .u32 16 c.v6]::blk w.p_w7 (ρ.T 24) [.vec .u32 16 c.w7]::A)
abbrev Y1:=Int→Addr→Addr→Addr→Addr→Int→Hp→Prop
abbrev T1 (S:Y1) (c:V) (w:W) (h:Hp):Prop:=S c.counter2 w.p_key3 w.p_nonce4 w.p_v6 w.p_w7 c.v11 h
def k1t (ρ:Ids) (A:List At) (S':V→Prop) (S:Y1):Prop:= ∀ (c:V) (w:W) (h:Hp),I1 ρ c w A h→S' c→T1 S c w h
def I2 (ρ:Ids) (c:V) (w:W) (A:List At) (h:Hp):Prop:=
  Inv h (blk w.p_nonce4 (ρ.T 22) [.vec .u8 12 c.nonce4]::blk w.p_v6 (ρ.T 24) [.vec .u32 16 c.v6]::blk w.p_w7 (ρ.T 24) [.vec .u32 16 c.w7]::A)
abbrev Y2:=Addr→Addr→Addr→Int→Hp→Prop
abbrev T2 (S:Y2) (c:V) (w:W) (h:Hp):Prop:=S w.p_nonce4 w.p_v6 w.p_w7 c.v24 h
def k2t (ρ:Ids) (A:List At) (S':V→Prop) (S:Y2):Prop:= ∀ (c:V) (w:W) (h:Hp),I2 ρ c w A h→S' c→T2 S c w h
variable {c:V} {w:W} {Q':QT} {Q:RT} {S1' S2':V→Prop} {S1:Y1} {S2:Y2}
def B2 (S2:V→Prop) (Q:QT) (c:V):Prop:=
  br (decide (c.v24<(3:Int)))
  ((SlOk c.nonce4.toList (IntKind.wrap .i64 ((4:Int)*c.v24)) ((12:Nat):Int))∧
  cipher_join (sub c.nonce4.toList (IntKind.wrap .i64 ((4:Int)*c.v24)) ((12:Nat):Int)) fun r_39=>
  ixP c.w7.toList (IntKind.wrap .i64 ((13:Int)+c.v24)) fun x_41=>
  S2 {c with w7:=(c.w7.setIfInBounds (Int.toNat (IntKind.wrap .i64 ((13:Int)+c.v24))) r_39),v24:=(IntKind.wrap .i64 (c.v24+(1:Int)))})
  (Q c.w7)
def L2 (Q:QT) (c:V):Prop:=Lf (fun S=>B2 S Q) c
theorem L2_in {Q:QT} {c:V} (H:B2 (L2 Q) Q c):L2 Q c:=Lf.fold H
theorem B2_r (I:I2 ρ c w A h) (H:B2 S2' Q' c) (kS2:k2t ρ A S2' S2) (k:kt ρ A Q' Q):T2 (Tx.cipher_start_B2 ρ S2 Q) c w h:=by
  unfold I2 at I
  unfold T2 Tx.cipher_start_B2
  unfold B2 at H
  refine br_r H (fun hb H=> ?_) (fun hb H=> ?_)
  · refine sl_vec (ss := [.vec .u8 12 c.nonce4]) (T := (ρ.T 22)) (j := 0) (off := 0) (v := c.nonce4) rfl H.1 fun a_35 c_36 hs_37 hr_38 => ?_
    replace H:=H.2
    refine cipher_join_r (b0:=(sub c.nonce4.toList (IntKind.wrap .i64 ((4:Int)*c.v24)) ((12:Nat):Int))) hr_38 I H fun r_39 h I H=> ?_
    refine ix_vec I.pull2 (j:=0) (off:=0) rfl (ixP_keep H) fun q_40 x_41 hq_42 hb_43 hc_44 H=> ?_
    obtain ⟨hg_45,H⟩:=H
    refine st_vec (I.pull2) (j:=0) (off:=0) rfl hq_42 hb_43 fun h I=> ?_
    replace I:=I.pull2.pull2
    exact kS2 {c with w7:=(c.w7.setIfInBounds (Int.toNat (IntKind.wrap .i64 ((13:Int)+c.v24))) r_39),v24:=(IntKind.wrap .i64 (c.v24+(1:Int)))} w _ I H
  · refine ldL_r (I.pull2.lump 0 0 rfl) ?_
    try simp only [nrm_v]
    refine stA_r I.pull1 0 1 0 [.vec .u32 16 c.w7] rfl rfl rfl (by first | exact all_segs rfl | exact all_one (by simp [segs,Seg.cells,allOne,allOne_append,allOne_lump,Value.oneCell'])) fun h (I:Inv h (blk w.p_v6 (ρ.T 24) [.vec .u32 16 c.w7]::_))=> ?_
    refine ldL_r (I.lump 0 0 rfl) ?_
    try simp only [nrm_v]
    replace I:=I.drop1
    replace I:=I.drop1
    replace I:=I.drop1
    exact k c.w7 _ I H
theorem L2_r (I:I2 ρ c w A h) (H:L2 Q' c) (k:kt ρ A Q' Q):T2 (Tx.cipher_start_L2 ρ Q) c w h:=by
  refine Lf.ind H (fun v=> ∀ (w:W) (h:Hp),I2 ρ v w A h→T2 (Tx.cipher_start_L2 ρ Q) v w h) ?_ w h I
  rintro c S hS HB w h I
  refine Tx.cipher_start_L2_in _ _ _ _ _ _ _ ?_
  try simp only [nrm_v]
  exact B2_r (c:=c) (w:=w) I HB (fun c w h I H=>hS _ H w h I) k
def B1 (S1:V→Prop) (Q:QT) (c:V):Prop:=
  br (decide (c.v11<(8:Int)))
  ((SlOk c.key3.toList (IntKind.wrap .i64 ((4:Int)*c.v11)) ((32:Nat):Int))∧
  cipher_join (sub c.key3.toList (IntKind.wrap .i64 ((4:Int)*c.v11)) ((32:Nat):Int)) fun r_17=>
  ixP c.w7.toList (IntKind.wrap .i64 ((4:Int)+c.v11)) fun x_19=>
  S1 {c with w7:=(c.w7.setIfInBounds (Int.toNat (IntKind.wrap .i64 ((4:Int)+c.v11))) r_17),v11:=(IntKind.wrap .i64 (c.v11+(1:Int)))})
  (ixP c.w7.toList (12:Int) fun x_26=>
  L2 Q {c with w7:=(c.w7.setIfInBounds (Int.toNat (12:Int)) c.counter2),v24:=(0:Int)})
def L1 (Q:QT) (c:V):Prop:=Lf (fun S=>B1 S Q) c
theorem L1_in {Q:QT} {c:V} (H:B1 (L1 Q) Q c):L1 Q c:=Lf.fold H
theorem B1_r (I:I1 ρ c w A h) (H:B1 S1' Q' c) (kS1:k1t ρ A S1' S1) (k:kt ρ A Q' Q):T1 (Tx.cipher_start_B1 ρ S1 Q) c w h:=by
  unfold I1 at I
  unfold T1 Tx.cipher_start_B1
  unfold B1 at H
  refine br_r H (fun hb H=> ?_) (fun hb H=> ?_)
  · refine sl_vec (ss := [.vec .u8 32 c.key3]) (T := (ρ.T 19)) (j := 0) (off := 0) (v := c.key3) rfl H.1 fun a_13 c_14 hs_15 hr_16 => ?_
    replace H:=H.2
    refine cipher_join_r (b0:=(sub c.key3.toList (IntKind.wrap .i64 ((4:Int)*c.v11)) ((32:Nat):Int))) hr_16 I H fun r_17 h I H=> ?_
    refine ix_vec I.pull3 (j:=0) (off:=0) rfl (ixP_keep H) fun q_18 x_19 hq_20 hb_21 hc_22 H=> ?_
    obtain ⟨hg_23,H⟩:=H
    refine st_vec (I.pull3) (j:=0) (off:=0) rfl hq_20 hb_21 fun h I=> ?_
    replace I:=I.pull3.pull3.pull3
    exact kS1 {c with w7:=(c.w7.setIfInBounds (Int.toNat (IntKind.wrap .i64 ((4:Int)+c.v11))) r_17),v11:=(IntKind.wrap .i64 (c.v11+(1:Int)))} w _ I H
  · refine ix_vec I.pull3 (j := 0) (off := 0) rfl (ixP_keep H) fun q_25 x_26 hq_27 hb_28 hc_29 H => ?_
    obtain ⟨hg_30,H⟩:=H
    refine st_vec (I.pull3) (j:=0) (off:=0) rfl hq_27 hb_28 fun h I=> ?_
    replace I:=I.pull1.drop1
    replace I:=I.pull2.pull2
    exact L2_r (c:= {c with w7:=(c.w7.setIfInBounds (Int.toNat (12:Int)) c.counter2),v24:=(0:Int)}) (w:=w) I H k
theorem L1_r (I:I1 ρ c w A h) (H:L1 Q' c) (k:kt ρ A Q' Q):T1 (Tx.cipher_start_L1 ρ Q) c w h:=by
  refine Lf.ind H (fun v=> ∀ (w:W) (h:Hp),I1 ρ v w A h→T1 (Tx.cipher_start_L1 ρ Q) v w h) ?_ w h I
  rintro c S hS HB w h I
  refine Tx.cipher_start_L1_in _ _ _ _ _ _ _ _ _ ?_
  try simp only [nrm_v]
  exact B1_r (c:=c) (w:=w) I HB (fun c w h I H=>hS _ H w h I) k
end cipher_start
def cipher_start (key0:Vector Int 32) (nonce1:Vector Int 12) (counter2:Int) (Q:cipher_start.QT):Prop:=
  cipher_start.L1 Q {cipher_start.v0 with counter2:=counter2,key3:=key0,nonce4:=nonce1,v6:=(Vector.replicate 16 (0:Int)),w7:= #v[(1634760805:Int),(857760878:Int),(2036477234:Int),(1797285236:Int),(0:Int),(0:Int),(0:Int),(0:Int),(0:Int),(0:Int),(0:Int),(0:Int),(0:Int),(0:Int),(0:Int),(0:Int)],v11:=(0:Int)}
theorem cipher_start_r {key0:Vector Int 32} {nonce1:Vector Int 12} {counter2:Int} {Q':cipher_start.QT} {Q:cipher_start.RT} (I:Inv h (A)) (H:cipher_start key0 nonce1 counter2 Q')
    (k:cipher_start.kt ρ A Q' Q):Tx.cipher_start ρ key0.toList nonce1.toList counter2 h Q:=by
  unfold Tx.cipher_start
  unfold cipher_start at H
  try simp only [nrm_v]
  refine al_r [.vec .u8 32 key0] rfl I fun p_1 h I=> ?_
  refine al_r [.vec .u8 12 nonce1] rfl I fun p_3 h I=> ?_
  refine al_r [.vec .u32 16 (Vector.replicate 16 (0:Int))] rfl I fun p_5 h I=> ?_
  refine al_r [.vec .u32 16 (Vector.replicate 16 (0:Int))] rfl I fun p_7 h I=> ?_
  refine stA_r I 0 1 0 [.vec .u32 16 (#v[(1634760805:Int),(857760878:Int),(2036477234:Int),(1797285236:Int),(0:Int),(0:Int),(0:Int),(0:Int),(0:Int),(0:Int),(0:Int),(0:Int),(0:Int),(0:Int),(0:Int),(0:Int)])] rfl rfl rfl (by first | exact all_segs rfl | exact all_one (by simp [segs,Seg.cells,allOne,allOne_append,allOne_lump,Value.oneCell'])) fun h (I:Inv h (blk p_7 (ρ.T 24) [.vec .u32 16 (#v[(1634760805:Int),(857760878:Int),(2036477234:Int),(1797285236:Int),(0:Int),(0:Int),(0:Int),(0:Int),(0:Int),(0:Int),(0:Int),(0:Int),(0:Int),(0:Int),(0:Int),(0:Int)])]::_))=> ?_
  replace I:=I.pull1.pull2.pull3
  exact cipher_start.L1_r (c:= {cipher_start.v0 with counter2:=counter2,key3:=key0,nonce4:=nonce1,v6:=(Vector.replicate 16 (0:Int)),w7:= #v[(1634760805:Int),(857760878:Int),(2036477234:Int),(1797285236:Int),(0:Int),(0:Int),(0:Int),(0:Int),(0:Int),(0:Int),(0:Int),(0:Int),(0:Int),(0:Int),(0:Int),(0:Int)],v11:=(0:Int)}) (w:= {cipher_start.w0 with p_key3:=p_1,p_nonce4:=p_3,p_v6:=p_5,p_w7:=p_7}) I H k
def math_bits_RotateLeft32 (x0:Int) (k1:Int) (Q:Int→Prop):Prop:=
  (0≤(IntKind.wrap .u64 (((BitVec.ofInt (IntKind.bits .u64) (IntKind.wrap .u64 k1) &&& (BitVec.ofInt (IntKind.bits .u64) (31:Int))).toNat:Int))))∧
  (0≤(IntKind.wrap .u64 ((32:Int) - (IntKind.wrap .u64 (((BitVec.ofInt (IntKind.bits .u64) (IntKind.wrap .u64 k1) &&& (BitVec.ofInt (IntKind.bits .u64) (31:Int))).toNat:Int))))))∧
  Q (IntKind.wrap .u32 (((BitVec.ofInt (IntKind.bits .u32) (IntKind.wrap .u32 (x0*2 ^ (min (Int.toNat (IntKind.wrap .u64 (((BitVec.ofInt (IntKind.bits .u64) (IntKind.wrap .u64 k1) &&& (BitVec.ofInt (IntKind.bits .u64) (31:Int))).toNat:Int)))) (IntKind.bits .u32)))) ||| (BitVec.ofInt (IntKind.bits .u32) (Int.fdiv x0 (2 ^ (min (Int.toNat (IntKind.wrap .u64 ((32:Int) - (IntKind.wrap .u64 (((BitVec.ofInt (IntKind.bits .u64) (IntKind.wrap .u64 k1) &&& (BitVec.ofInt (IntKind.bits .u64) (31:Int))).toNat:Int)))))) (IntKind.bits .u32)))))).toNat:Int)))
theorem math_bits_RotateLeft32_r {x0:Int} {k1:Int} {Q':Int→Prop} {Q:Int→Hp→Prop} (I:Inv h (A)) (H:math_bits_RotateLeft32 x0 k1 Q')
    (k: ∀ (r0:Int) (h':Hp),Inv h' (A)→Q' r0→Q r0 h'):Tx.math_bits_RotateLeft32 ρ x0 k1 h Q:=by
  unfold Tx.math_bits_RotateLeft32
  unfold math_bits_RotateLeft32 at H
  refine and_r H fun H=> ?_
  refine and_r H fun H=> ?_
  exact k (IntKind.wrap .u32 (((BitVec.ofInt (IntKind.bits .u32) (IntKind.wrap .u32 (x0*2 ^ (min (Int.toNat (IntKind.wrap .u64 (((BitVec.ofInt (IntKind.bits .u64) (IntKind.wrap .u64 k1) &&& (BitVec.ofInt (IntKind.bits .u64) (31:Int))).toNat:Int)))) (IntKind.bits .u32)))) ||| (BitVec.ofInt (IntKind.bits .u32) (Int.fdiv x0 (2 ^ (min (Int.toNat (IntKind.wrap .u64 ((32:Int) - (IntKind.wrap .u64 (((BitVec.ofInt (IntKind.bits .u64) (IntKind.wrap .u64 k1) &&& (BitVec.ofInt (IntKind.bits .u64) (31:Int))).toNat:Int)))))) (IntKind.bits .u32)))))).toNat:Int))) _ I H
def cipher_Quarter_1 (x0:Int) (y1:Int) (z2:Int) (by3:Int) (v4:Vector Int 4) (Q:(Vector Int 4)→Prop):Prop:=
  ixP v4.toList x0 fun x_3=>
  ixP v4.toList y1 fun x_9=>
  ixP v4.toList x0 fun x_15=>
  ixP (v4.setIfInBounds (Int.toNat x0) (IntKind.wrap .u32 (x_3+x_9))).toList z2 fun x_22=>
  ixP (v4.setIfInBounds (Int.toNat x0) (IntKind.wrap .u32 (x_3+x_9))).toList x0 fun x_28=>
  math_bits_RotateLeft32 (IntKind.wrap .u32 (((BitVec.ofInt (IntKind.bits .u32) x_22 ^^^ (BitVec.ofInt (IntKind.bits .u32) x_28)).toNat:Int))) by3 fun r_33=>
  ixP (v4.setIfInBounds (Int.toNat x0) (IntKind.wrap .u32 (x_3+x_9))).toList z2 fun x_35=>
  Q ((v4.setIfInBounds (Int.toNat x0) (IntKind.wrap .u32 (x_3+x_9))).setIfInBounds (Int.toNat z2) r_33)
theorem cipher_Quarter_1_r {x0:Int} {y1:Int} {z2:Int} {by3:Int} {v4:Vector Int 4} {p_v4:Addr} {Q':(Vector Int 4)→Prop} {Q:Hp→Prop} (I:Inv h (blk p_v4 (ρ.T 25) [.vec .u32 4 v4]::A)) (H:cipher_Quarter_1 x0 y1 z2 by3 v4 Q')
    (k: ∀ (v4_r:Vector Int 4) (h':Hp),Inv h' (blk p_v4 (ρ.T 25) [.vec .u32 4 v4_r]::A)→Q' v4_r→Q h'):Tx.cipher_Quarter_1 ρ x0 y1 z2 by3 p_v4 h Q:=by
  unfold Tx.cipher_Quarter_1
  unfold cipher_Quarter_1 at H
  refine ix_vec I (j:=0) (off:=0) rfl (ixP_keep H) fun q_2 x_3 hq_4 hb_5 hc_6 H=> ?_
  obtain ⟨hg_7,H⟩:=H
  refine ldI_r hc_6 ?_
  refine ix_vec I (j:=0) (off:=0) rfl (ixP_keep H) fun q_8 x_9 hq_10 hb_11 hc_12 H=> ?_
  obtain ⟨hg_13,H⟩:=H
  refine ldI_r hc_12 ?_
  refine ix_vec I (j:=0) (off:=0) rfl (ixP_keep H) fun q_14 x_15 hq_16 hb_17 hc_18 H=> ?_
  obtain ⟨hg_19,H⟩:=H
  refine st_vec (I) (j:=0) (off:=0) rfl hq_16 hb_17 fun h I=> ?_
  refine ix_vec I (j:=0) (off:=0) rfl (ixP_keep H) fun q_21 x_22 hq_23 hb_24 hc_25 H=> ?_
  obtain ⟨hg_26,H⟩:=H
  refine ldI_r hc_25 ?_
  refine ix_vec I (j:=0) (off:=0) rfl (ixP_keep H) fun q_27 x_28 hq_29 hb_30 hc_31 H=> ?_
  obtain ⟨hg_32,H⟩:=H
  refine ldI_r hc_31 ?_
  refine math_bits_RotateLeft32_r (x0:=(IntKind.wrap .u32 (((BitVec.ofInt (IntKind.bits .u32) x_22 ^^^ (BitVec.ofInt (IntKind.bits .u32) x_28)).toNat:Int)))) (k1:=by3) I H fun r_33 h I H=> ?_
  refine ix_vec I (j:=0) (off:=0) rfl (ixP_keep H) fun q_34 x_35 hq_36 hb_37 hc_38 H=> ?_
  obtain ⟨hg_39,H⟩:=H
  refine st_vec (I) (j:=0) (off:=0) rfl hq_36 hb_37 fun h I=> ?_
  exact k ((v4.setIfInBounds (Int.toNat x0) (IntKind.wrap .u32 (x_3+x_9))).setIfInBounds (Int.toNat z2) r_33) _ I H
def cipher_Quarter (w0:Vector Int 4) (Q:(Vector Int 4)→Prop):Prop:=
  cipher_Quarter_1 (0:Int) (1:Int) (3:Int) (16:Int) w0 fun r_5=>
  cipher_Quarter_1 (2:Int) (3:Int) (1:Int) (12:Int) r_5 fun r_6=>
  cipher_Quarter_1 (0:Int) (1:Int) (3:Int) (8:Int) r_6 fun r_7=>
  cipher_Quarter_1 (2:Int) (3:Int) (1:Int) (7:Int) r_7 fun r_8=>
  Q r_8
theorem cipher_Quarter_r {w0:Vector Int 4} {Q':(Vector Int 4)→Prop} {Q:List Int→Hp→Prop} (I:Inv h (A)) (H:cipher_Quarter w0 Q')
    (k: ∀ (r0:Vector Int 4) (h':Hp),Inv h' (A)→Q' r0→Q r0.toList h'):Tx.cipher_Quarter ρ w0.toList h Q:=by
  unfold Tx.cipher_Quarter
  unfold cipher_Quarter at H
  try simp only [nrm_v]
  refine al_r [.vec .u32 4 w0] rfl I fun p_1 h I=> ?_
  refine al_r [.vec .u32 4 (Vector.replicate 4 (0:Int))] rfl I fun p_3 h I=> ?_
  replace I:=I.pull1
  refine cipher_Quarter_1_r (x0:=(0:Int)) (y1:=(1:Int)) (z2:=(3:Int)) (by3:=(16:Int)) (v4:=w0) I H fun r_5 h I H=> ?_
  refine ⟨_,rfl, ?_⟩
  refine cipher_Quarter_1_r (x0:=(2:Int)) (y1:=(3:Int)) (z2:=(1:Int)) (by3:=(12:Int)) (v4:=r_5) I H fun r_6 h I H=> ?_
  refine ⟨_,rfl, ?_⟩
  refine cipher_Quarter_1_r (x0:=(0:Int)) (y1:=(1:Int)) (z2:=(3:Int)) (by3:=(8:Int)) (v4:=r_6) I H fun r_7 h I H=> ?_
  refine ⟨_,rfl, ?_⟩
  refine cipher_Quarter_1_r (x0:=(2:Int)) (y1:=(3:Int)) (z2:=(1:Int)) (by3:=(7:Int)) (v4:=r_7) I H fun r_8 h I H=> ?_
  refine ⟨_,rfl, ?_⟩
  refine ldL_r (I.lump 0 0 rfl) ?_
  try simp only [nrm_v]
  refine stA_r I.pull1 0 1 0 [.vec .u32 4 r_8] rfl rfl rfl (by first | exact all_segs rfl | exact all_one (by simp [segs,Seg.cells,allOne,allOne_append,allOne_lump,Value.oneCell'])) fun h (I:Inv h (blk p_3 (ρ.T 25) [.vec .u32 4 r_8]::_))=> ?_
  refine ldL_r (I.lump 0 0 rfl) ?_
  try simp only [nrm_v]
  replace I:=I.drop1
  replace I:=I.drop1
  exact k r_8 _ I H
namespace cipher_Block_1
structure V where
  v4:Vector Int 16
  a0:Int
  b1:Int
  c2:Int
  d3:Int
  q9:Vector Int 4
  v23:Vector Int 4
structure W where
  p_q9:Addr
def v0:V:=⟨Vector.replicate 16 0,0,0,0,0,Vector.replicate 4 0,Vector.replicate 4 0⟩
def w0:W:=⟨⟨0,0,none⟩⟩
abbrev QT:=(Vector Int 16)→Prop
abbrev RT:=Hp→Prop
def kt (ρ:Ids) (p_v4:Addr) (A:List At) (Q':QT) (Q:RT):Prop:=
  ∀ (v4_r:Vector Int 16) (h':Hp),Inv h' (blk p_v4 (ρ.T 24) [.vec .u32 16 v4_r]::A)→Q' v4_r→Q h'
def I1 (ρ:Ids) (p_v4:Addr) (c:V) (w:W) (A:List At) (h:Hp):Prop:=
  Inv h (blk p_v4 (ρ.T 24) [.vec .u32 16 c.v4]::blk w.p_q9 (ρ.T 25) [.vec .u32 4 c.q9]::A)
def I2 (ρ:Ids) (p_v4:Addr) (c:V) (w:W) (A:List At) (h:Hp):Prop:=
  Inv h (blk p_v4 (ρ.T 24) [.vec .u32 16 c.v4]::A)
def I3 (ρ:Ids) (p_v4:Addr) (c:V) (w:W) (A:List At) (h:Hp):Prop:=
  Inv h (blk p_v4 (ρ.T 24) [.vec .u32 16 c.v4]::blk w.p_q9 (ρ.T 25) [.vec .u32 4 c.q9]::A)
variable {p_v4:Addr} {c:V} {w:W} {Q':QT} {Q:RT}
def K1 (Q:QT) (c:V):Prop:=
  ixP c.q9.toList (0:Int) fun x_33=>
  ixP c.q9.toList (1:Int) fun x_39=>
  ixP c.q9.toList (2:Int) fun x_45=>
  ixP c.q9.toList (3:Int) fun x_51=>
  ixP c.v4.toList c.a0 fun x_57=>
  ixP (c.v4.setIfInBounds (Int.toNat c.a0) x_33).toList c.b1 fun x_64=>
  ixP ((c.v4.setIfInBounds (Int.toNat c.a0) x_33).setIfInBounds (Int.toNat c.b1) x_39).toList c.c2 fun x_71=>
  ixP (((c.v4.setIfInBounds (Int.toNat c.a0) x_33).setIfInBounds (Int.toNat c.b1) x_39).setIfInBounds (Int.toNat c.c2) x_45).toList c.d3 fun x_78=>
  Q ((((c.v4.setIfInBounds (Int.toNat c.a0) x_33).setIfInBounds (Int.toNat c.b1) x_39).setIfInBounds (Int.toNat c.c2) x_45).setIfInBounds (Int.toNat c.d3) x_51)
theorem K1_r (I:I1 ρ p_v4 c w A h) (H:K1 Q' c) (k:kt ρ p_v4 A Q' Q):Tx.cipher_Block_1_K1 ρ Q c.a0 c.b1 c.c2 c.d3 p_v4 w.p_q9 h:=by
  unfold I1 at I
  unfold Tx.cipher_Block_1_K1
  unfold K1 at H
  refine ix_vec I.pull1 (j:=0) (off:=0) rfl (ixP_keep H) fun q_32 x_33 hq_34 hb_35 hc_36 H=> ?_
  obtain ⟨hg_37,H⟩:=H
  refine ldI_r hc_36 ?_
  refine ix_vec I.pull1 (j:=0) (off:=0) rfl (ixP_keep H) fun q_38 x_39 hq_40 hb_41 hc_42 H=> ?_
  obtain ⟨hg_43,H⟩:=H
  refine ldI_r hc_42 ?_
  refine ix_vec I.pull1 (j:=0) (off:=0) rfl (ixP_keep H) fun q_44 x_45 hq_46 hb_47 hc_48 H=> ?_
  obtain ⟨hg_49,H⟩:=H
  refine ldI_r hc_48 ?_
  refine ix_vec I.pull1 (j:=0) (off:=0) rfl (ixP_keep H) fun q_50 x_51 hq_52 hb_53 hc_54 H=> ?_
  obtain ⟨hg_55,H⟩:=H
  refine ldI_r hc_54 ?_
  refine ix_vec I (j:=0) (off:=0) rfl (ixP_keep H) fun q_56 x_57 hq_58 hb_59 hc_60 H=> ?_
  obtain ⟨hg_61,H⟩:=H
  refine st_vec (I) (j:=0) (off:=0) rfl hq_58 hb_59 fun h I=> ?_
  refine ⟨(vel_keep I.pull1 (j:=0) (off:=0) rfl hq_52 hb_53 hg_55), ?_⟩
  refine ⟨(vel_keep I.pull1 (j:=0) (off:=0) rfl hq_46 hb_47 hg_49), ?_⟩
  refine ⟨(vel_keep I.pull1 (j:=0) (off:=0) rfl hq_40 hb_41 hg_43), ?_⟩
  refine ix_vec I (j:=0) (off:=0) rfl (ixP_keep H) fun q_63 x_64 hq_65 hb_66 hc_67 H=> ?_
  obtain ⟨hg_68,H⟩:=H
  refine st_vec (I) (j:=0) (off:=0) rfl hq_65 hb_66 fun h I=> ?_
  refine ⟨(vel_keep I.pull1 (j:=0) (off:=0) rfl hq_52 hb_53 hg_55), ?_⟩
  refine ⟨(vel_keep I.pull1 (j:=0) (off:=0) rfl hq_46 hb_47 hg_49), ?_⟩
  refine ix_vec I (j:=0) (off:=0) rfl (ixP_keep H) fun q_70 x_71 hq_72 hb_73 hc_74 H=> ?_
  obtain ⟨hg_75,H⟩:=H
  refine st_vec (I) (j:=0) (off:=0) rfl hq_72 hb_73 fun h I=> ?_
  refine ⟨(vel_keep I.pull1 (j:=0) (off:=0) rfl hq_52 hb_53 hg_55), ?_⟩
  refine ix_vec I (j:=0) (off:=0) rfl (ixP_keep H) fun q_77 x_78 hq_79 hb_80 hc_81 H=> ?_
  obtain ⟨hg_82,H⟩:=H
  refine st_vec (I) (j:=0) (off:=0) rfl hq_79 hb_80 fun h I=> ?_
  replace I:=I.pull1.drop1
  exact k ((((c.v4.setIfInBounds (Int.toNat c.a0) x_33).setIfInBounds (Int.toNat c.b1) x_39).setIfInBounds (Int.toNat c.c2) x_45).setIfInBounds (Int.toNat c.d3) x_51) _ I H
def K3 (Q:QT) (c:V):Prop:=
  K1 Q {c with q9:=c.v23}
theorem K3_r (I:I3 ρ p_v4 c w A h) (H:K3 Q' c) (k:kt ρ p_v4 A Q' Q):Tx.cipher_Block_1_K3 ρ Q c.a0 c.b1 c.c2 c.d3 p_v4 w.p_q9 c.v23.toList h:=by
  unfold I3 at I
  unfold Tx.cipher_Block_1_K3
  unfold K3 at H
  try simp only [nrm_v]
  refine stA_r I.pull1 0 1 0 [.vec .u32 4 c.v23] rfl rfl rfl (by first | exact all_segs rfl | exact all_one (by simp [segs,Seg.cells,allOne,allOne_append,allOne_lump,Value.oneCell'])) fun h (I:Inv h (blk w.p_q9 (ρ.T 25) [.vec .u32 4 c.v23]::_))=> ?_
  replace I:=I.pull1
  exact K1_r (c:= {c with q9:=c.v23}) (w:=w) I H k
def K2 (Q:QT) (c:V):Prop:=
  K3 Q {c with q9:=(Vector.replicate 4 (0:Int))}
theorem K2_r (I:I2 ρ p_v4 c w A h) (H:K2 Q' c) (k:kt ρ p_v4 A Q' Q):Tx.cipher_Block_1_K2 ρ Q c.a0 c.b1 c.c2 c.d3 p_v4 c.v23.toList h:=by
  unfold I2 at I
  unfold Tx.cipher_Block_1_K2
  unfold K2 at H
  try simp only [nrm_v]
  refine al_r [.vec .u32 4 (Vector.replicate 4 (0:Int))] rfl I fun p_85 h I=> ?_
  replace I:=I.pull1
  try simp only [nrm_v]
  exact K3_r (c:= {c with q9:=(Vector.replicate 4 (0:Int))}) (w:= {w with p_q9:=p_85}) I H k
end cipher_Block_1
def cipher_Block_1 (a0:Int) (b1:Int) (c2:Int) (d3:Int) (v4:Vector Int 16) (Q:cipher_Block_1.QT):Prop:=
  ixP v4.toList a0 fun x_3=>
  ixP v4.toList b1 fun x_9=>
  ixP v4.toList c2 fun x_15=>
  ixP v4.toList d3 fun x_21=>
  (cipher_Quarter (#v[x_3,x_9,x_15,x_21]) fun r_26=>
  cipher_Block_1.K2 Q {cipher_Block_1.v0 with v4:=v4,a0:=a0,b1:=b1,c2:=c2,d3:=d3,v23:=r_26})∧
  (cipher_Quarter (#v[x_3,x_9,x_15,x_21]) fun r_29=>
  cipher_Block_1.K3 Q {cipher_Block_1.v0 with v4:=v4,a0:=a0,b1:=b1,c2:=c2,d3:=d3,q9:=(Vector.replicate 4 (0:Int)),v23:=r_29})
theorem cipher_Block_1_r {a0:Int} {b1:Int} {c2:Int} {d3:Int} {v4:Vector Int 16} {p_v4:Addr} {Q':cipher_Block_1.QT} {Q:cipher_Block_1.RT} (I:Inv h (blk p_v4 (ρ.T 24) [.vec .u32 16 v4]::A)) (H:cipher_Block_1 a0 b1 c2 d3 v4 Q')
    (k:cipher_Block_1.kt ρ p_v4 A Q' Q):Tx.cipher_Block_1 ρ a0 b1 c2 d3 p_v4 h Q:=by
  unfold Tx.cipher_Block_1
  unfold cipher_Block_1 at H
  refine ix_vec I (j:=0) (off:=0) rfl (ixP_keep H) fun q_2 x_3 hq_4 hb_5 hc_6 H=> ?_
  obtain ⟨hg_7,H⟩:=H
  refine ldI_r hc_6 ?_
  refine ix_vec I (j:=0) (off:=0) rfl (ixP_keep H) fun q_8 x_9 hq_10 hb_11 hc_12 H=> ?_
  obtain ⟨hg_13,H⟩:=H
  refine ldI_r hc_12 ?_
  refine ix_vec I (j:=0) (off:=0) rfl (ixP_keep H) fun q_14 x_15 hq_16 hb_17 hc_18 H=> ?_
  obtain ⟨hg_19,H⟩:=H
  refine ldI_r hc_18 ?_
  refine ix_vec I (j:=0) (off:=0) rfl (ixP_keep H) fun q_20 x_21 hq_22 hb_23 hc_24 H=> ?_
  obtain ⟨hg_25,H⟩:=H
  refine ldI_r hc_24 ?_
  refine and2_r H (fun H=> ?_) (fun H=> ?_)
  · try simp only [nrm_v]
    refine cipher_Quarter_r (w0:= #v[x_3,x_9,x_15,x_21]) I H fun r_26 h I H=> ?_
    try simp only [nrm_v]
    exact cipher_Block_1.K2_r (c:= {cipher_Block_1.v0 with v4:=v4,a0:=a0,b1:=b1,c2:=c2,d3:=d3,v23:=r_26}) (w:=cipher_Block_1.w0) I H k
  · refine al_r [.vec .u32 4 (Vector.replicate 4 (0 : Int))] rfl I fun p_27 h I => ?_
    refine ⟨(vel_keep I.pull1 (j:=0) (off:=0) rfl hq_22 hb_23 hg_25), ?_⟩
    refine ⟨(vel_keep I.pull1 (j:=0) (off:=0) rfl hq_16 hb_17 hg_19), ?_⟩
    refine ⟨(vel_keep I.pull1 (j:=0) (off:=0) rfl hq_10 hb_11 hg_13), ?_⟩
    refine ⟨(vel_keep I.pull1 (j:=0) (off:=0) rfl hq_4 hb_5 hg_7), ?_⟩
    try simp only [nrm_v]
    refine cipher_Quarter_r (w0:= #v[x_3,x_9,x_15,x_21]) I H fun r_29 h I H=> ?_
    replace I:=I.pull1
    try simp only [nrm_v]
    exact cipher_Block_1.K3_r (c:= {cipher_Block_1.v0 with v4:=v4,a0:=a0,b1:=b1,c2:=c2,d3:=d3,q9:=(Vector.replicate 4 (0:Int)),v23:=r_29}) (w:= {cipher_Block_1.w0 with p_q9:=p_27}) I H k
namespace cipher_Block
structure V where
  v6:Vector Int 64
  first7:Vector Int 16
  w8:Vector Int 16
  v20:Int
  v22:Int
  v35:Int
  b12:Vector Int 64
  v55:Int
structure W where
  p_v6:Addr
  p_first7:Addr
  p_w8:Addr
  p_b12:Addr
def v0:V:=⟨Vector.replicate 64 0,Vector.replicate 16 0,Vector.replicate 16 0,0,0,0,Vector.replicate 64 0,0⟩
def w0:W:=⟨⟨0,0,none⟩,⟨0,0,none⟩,⟨0,0,none⟩,⟨0,0,none⟩⟩
abbrev QT:=(Vector Int 64)→Prop
abbrev RT:=List Int→Hp→Prop
def kt (ρ:Ids) (A:List At) (Q':QT) (Q:RT):Prop:=
  ∀ (r0:Vector Int 64) (h':Hp),Inv h' (A)→Q' r0→Q r0.toList h'
def I1 (ρ:Ids) (c:V) (w:W) (A:List At) (h:Hp):Prop:=
  Inv h (blk w.p_v6 (ρ.T 23) [.vec .u8 64 c.v6]::blk w.p_first7 (ρ.T 24) [.vec .u32 16 c.first7]::blk w.p_w8 (ρ.T 24) [.vec .u32 16 c.w8]::A)
abbrev Y1:=Addr→Addr→Addr→Addr→Int→Hp→Prop
abbrev T1 (S:Y1) (c:V) (w:W) (h:Hp):Prop:=S w.p_v6 w.p_first7 w.p_w8 w.p_w8 c.v20 h
def k1t (ρ:Ids) (A:List At) (S':V→Prop) (S:Y1):Prop:= ∀ (c:V) (w:W) (h:Hp),I1 ρ c w A h→S' c→T1 S c w h
def I2 (ρ:Ids) (c:V) (w:W) (A:List At) (h:Hp):Prop:=
  Inv h (blk w.p_v6 (ρ.T 23) [.vec .u8 64 c.v6]::blk w.p_first7 (ρ.T 24) [.vec .u32 16 c.first7]::blk w.p_w8 (ρ.T 24) [.vec .u32 16 c.w8]::A)
abbrev Y2:=Addr→Addr→Addr→Addr→Int→Int→Hp→Prop
abbrev T2 (S:Y2) (c:V) (w:W) (h:Hp):Prop:=S w.p_v6 w.p_first7 w.p_w8 w.p_w8 c.v20 c.v22 h
def k2t (ρ:Ids) (A:List At) (S':V→Prop) (S:Y2):Prop:= ∀ (c:V) (w:W) (h:Hp),I2 ρ c w A h→S' c→T2 S c w h
def I3 (ρ:Ids) (c:V) (w:W) (A:List At) (h:Hp):Prop:=
  Inv h (blk w.p_v6 (ρ.T 23) [.vec .u8 64 c.v6]::blk w.p_first7 (ρ.T 24) [.vec .u32 16 c.first7]::blk w.p_w8 (ρ.T 24) [.vec .u32 16 c.w8]::A)
abbrev Y3:=Addr→Addr→Addr→Addr→Int→Int→Hp→Prop
abbrev T3 (S:Y3) (c:V) (w:W) (h:Hp):Prop:=S w.p_v6 w.p_first7 w.p_w8 w.p_w8 c.v20 c.v35 h
def k3t (ρ:Ids) (A:List At) (S':V→Prop) (S:Y3):Prop:= ∀ (c:V) (w:W) (h:Hp),I3 ρ c w A h→S' c→T3 S c w h
def I4 (ρ:Ids) (c:V) (w:W) (A:List At) (h:Hp):Prop:=
  Inv h (blk w.p_v6 (ρ.T 23) [.vec .u8 64 c.v6]::blk w.p_first7 (ρ.T 24) [.vec .u32 16 c.first7]::blk w.p_w8 (ρ.T 24) [.vec .u32 16 c.w8]::blk w.p_b12 (ρ.T 23) [.vec .u8 64 c.b12]::A)
abbrev Y4:=Addr→Addr→Addr→Addr→Int→Hp→Prop
abbrev T4 (S:Y4) (c:V) (w:W) (h:Hp):Prop:=S w.p_v6 w.p_first7 w.p_w8 w.p_b12 c.v55 h
def k4t (ρ:Ids) (A:List At) (S':V→Prop) (S:Y4):Prop:= ∀ (c:V) (w:W) (h:Hp),I4 ρ c w A h→S' c→T4 S c w h
variable {c:V} {w:W} {Q':QT} {Q:RT} {S1' S2' S3' S4':V→Prop} {S1:Y1} {S2:Y2} {S3:Y3} {S4:Y4}
def B3 (S1:V→Prop) (S3:V→Prop) (Q:QT) (c:V):Prop:=
  br (decide (c.v35<(4:Int)))
  (cipher_Block_1 c.v35 (IntKind.wrap .i64 ((4:Int)+(Int.tmod (IntKind.wrap .i64 (c.v35+(1:Int))) (4:Int)))) (IntKind.wrap .i64 ((8:Int)+(Int.tmod (IntKind.wrap .i64 (c.v35+(2:Int))) (4:Int)))) (IntKind.wrap .i64 ((12:Int)+(Int.tmod (IntKind.wrap .i64 (c.v35+(3:Int))) (4:Int)))) c.w8 fun r_24=>
  S3 {c with w8:=r_24,v35:=(IntKind.wrap .i64 (c.v35+(1:Int)))})
  (S1 {c with v20:=(IntKind.wrap .i64 (c.v20+(1:Int)))})
def L3 (S1:V→Prop) (Q:QT) (c:V):Prop:=Lf (fun S=>B3 S1 S Q) c
theorem L3_in (S1:V→Prop) {Q:QT} {c:V} (H:B3 S1 (L3 S1 Q) Q c):L3 S1 Q c:=Lf.fold H
theorem B3_r (I:I3 ρ c w A h) (H:B3 S1' S3' Q' c) (kS1:k1t ρ A S1' S1) (kS3:k3t ρ A S3' S3) (k:kt ρ A Q' Q):T3 (Tx.cipher_Block_B3 ρ S1 S3 Q) c w h:=by
  unfold I3 at I
  unfold T3 Tx.cipher_Block_B3
  unfold B3 at H
  refine br_r H (fun hb H=> ?_) (fun hb H=> ?_)
  · refine ⟨by decide, ?_⟩
    refine ⟨by decide, ?_⟩
    refine ⟨by decide, ?_⟩
    replace I:=I.pull2
    refine cipher_Block_1_r (a0:=c.v35) (b1:=(IntKind.wrap .i64 ((4:Int)+(Int.tmod (IntKind.wrap .i64 (c.v35+(1:Int))) (4:Int))))) (c2:=(IntKind.wrap .i64 ((8:Int)+(Int.tmod (IntKind.wrap .i64 (c.v35+(2:Int))) (4:Int))))) (d3:=(IntKind.wrap .i64 ((12:Int)+(Int.tmod (IntKind.wrap .i64 (c.v35+(3:Int))) (4:Int))))) (v4:=c.w8) I H fun r_24 h I H=> ?_
    refine ⟨_,rfl, ?_⟩
    replace I:=I.pull2.pull2
    exact kS3 {c with w8:=r_24,v35:=(IntKind.wrap .i64 (c.v35+(1:Int)))} w _ I H
  · replace I := I.pull2.pull2.pull2
    exact kS1 {c with v20:=(IntKind.wrap .i64 (c.v20+(1:Int)))} w _ I H
theorem L3_r (I:I3 ρ c w A h) (H:L3 S1' Q' c) (kS1:k1t ρ A S1' S1) (k:kt ρ A Q' Q):T3 (Tx.cipher_Block_L3 ρ S1 Q) c w h:=by
  refine Lf.ind H (fun v=> ∀ (w:W) (h:Hp),I3 ρ v w A h→T3 (Tx.cipher_Block_L3 ρ S1 Q) v w h) ?_ w h I
  rintro c S hS HB w h I
  refine Tx.cipher_Block_L3_in _ _ _ _ _ _ _ _ _ _ ?_
  try simp only [nrm_v]
  exact B3_r (c:=c) (w:=w) I HB kS1 (fun c w h I H=>hS _ H w h I) k
def B2 (S1:V→Prop) (S2:V→Prop) (Q:QT) (c:V):Prop:=
  br (decide (c.v22<(4:Int)))
  (cipher_Block_1 c.v22 (IntKind.wrap .i64 ((4:Int)+c.v22)) (IntKind.wrap .i64 ((8:Int)+c.v22)) (IntKind.wrap .i64 ((12:Int)+c.v22)) c.w8 fun r_20=>
  S2 {c with w8:=r_20,v22:=(IntKind.wrap .i64 (c.v22+(1:Int)))})
  (L3 S1 Q {c with v35:=(0:Int)})
def L2 (S1:V→Prop) (Q:QT) (c:V):Prop:=Lf (fun S=>B2 S1 S Q) c
theorem L2_in (S1:V→Prop) {Q:QT} {c:V} (H:B2 S1 (L2 S1 Q) Q c):L2 S1 Q c:=Lf.fold H
theorem B2_r (I:I2 ρ c w A h) (H:B2 S1' S2' Q' c) (kS1:k1t ρ A S1' S1) (kS2:k2t ρ A S2' S2) (k:kt ρ A Q' Q):T2 (Tx.cipher_Block_B2 ρ S1 S2 Q) c w h:=by
  unfold I2 at I
  unfold T2 Tx.cipher_Block_B2
  unfold B2 at H
  refine br_r H (fun hb H=> ?_) (fun hb H=> ?_)
  · replace I := I.pull2
    refine cipher_Block_1_r (a0:=c.v22) (b1:=(IntKind.wrap .i64 ((4:Int)+c.v22))) (c2:=(IntKind.wrap .i64 ((8:Int)+c.v22))) (d3:=(IntKind.wrap .i64 ((12:Int)+c.v22))) (v4:=c.w8) I H fun r_20 h I H=> ?_
    refine ⟨_,rfl, ?_⟩
    replace I:=I.pull2.pull2
    exact kS2 {c with w8:=r_20,v22:=(IntKind.wrap .i64 (c.v22+(1:Int)))} w _ I H
  · replace I := I.pull2.pull2.pull2
    exact L3_r (c:= {c with v35:=(0:Int)}) (w:=w) I H kS1 k
theorem L2_r (I:I2 ρ c w A h) (H:L2 S1' Q' c) (kS1:k1t ρ A S1' S1) (k:kt ρ A Q' Q):T2 (Tx.cipher_Block_L2 ρ S1 Q) c w h:=by
  refine Lf.ind H (fun v=> ∀ (w:W) (h:Hp),I2 ρ v w A h→T2 (Tx.cipher_Block_L2 ρ S1 Q) v w h) ?_ w h I
  rintro c S hS HB w h I
  refine Tx.cipher_Block_L2_in _ _ _ _ _ _ _ _ _ _ ?_
  try simp only [nrm_v]
  exact B2_r (c:=c) (w:=w) I HB kS1 (fun c w h I H=>hS _ H w h I) k
def B4 (S4:V→Prop) (Q:QT) (c:V):Prop:=
  br (decide (c.v55<(64:Int)))
  (ixP c.w8.toList (IntKind.wrap .i64 (Int.tdiv c.v55 (4:Int))) fun x_30=>
  ixP c.first7.toList (IntKind.wrap .i64 (Int.tdiv c.v55 (4:Int))) fun x_36=>
  (0≤(IntKind.wrap .i64 ((8:Int)*(Int.tmod c.v55 (4:Int)))))∧
  ixP c.b12.toList c.v55 fun x_42=>
  S4 {c with b12:=(c.b12.setIfInBounds (Int.toNat c.v55) (IntKind.wrap .u8 (Int.fdiv (IntKind.wrap .u32 (x_30+x_36)) (2 ^ (min (Int.toNat (IntKind.wrap .i64 ((8:Int)*(Int.tmod c.v55 (4:Int))))) (IntKind.bits .u32)))))),v55:=(IntKind.wrap .i64 (c.v55+(1:Int)))})
  (Q c.b12)
def L4 (Q:QT) (c:V):Prop:=Lf (fun S=>B4 S Q) c
theorem L4_in {Q:QT} {c:V} (H:B4 (L4 Q) Q c):L4 Q c:=Lf.fold H
theorem B4_r (I:I4 ρ c w A h) (H:B4 S4' Q' c) (kS4:k4t ρ A S4' S4) (k:kt ρ A Q' Q):T4 (Tx.cipher_Block_B4 ρ S4 Q) c w h:=by
  unfold I4 at I
  unfold T4 Tx.cipher_Block_B4
  unfold B4 at H
  refine br_r H (fun hb H=> ?_) (fun hb H=> ?_)
  · refine ⟨by decide, ?_⟩
    refine ix_vec I.pull2 (j:=0) (off:=0) rfl (ixP_keep H) fun q_29 x_30 hq_31 hb_32 hc_33 H=> ?_
    obtain ⟨hg_34,H⟩:=H
    refine ldI_r hc_33 ?_
    refine ⟨by decide, ?_⟩
    refine ix_vec I.pull1 (j:=0) (off:=0) rfl (ixP_keep H) fun q_35 x_36 hq_37 hb_38 hc_39 H=> ?_
    obtain ⟨hg_40,H⟩:=H
    refine ldI_r hc_39 ?_
    refine ⟨by decide, ?_⟩
    refine and_r H fun H=> ?_
    refine ix_vec I.pull3 (j:=0) (off:=0) rfl (ixP_keep H) fun q_41 x_42 hq_43 hb_44 hc_45 H=> ?_
    obtain ⟨hg_46,H⟩:=H
    refine st_vec (I.pull3) (j:=0) (off:=0) rfl hq_43 hb_44 fun h I=> ?_
    replace I:=I.pull3.pull3.pull3
    exact kS4 {c with b12:=(c.b12.setIfInBounds (Int.toNat c.v55) (IntKind.wrap .u8 (Int.fdiv (IntKind.wrap .u32 (x_30+x_36)) (2 ^ (min (Int.toNat (IntKind.wrap .i64 ((8:Int)*(Int.tmod c.v55 (4:Int))))) (IntKind.bits .u32)))))),v55:=(IntKind.wrap .i64 (c.v55+(1:Int)))} w _ I H
  · refine ldL_r (I.pull3.lump 0 0 rfl) ?_
    try simp only [nrm_v]
    refine stA_r I 0 1 0 [.vec .u8 64 c.b12] rfl rfl rfl (by first | exact all_segs rfl | exact all_one (by simp [segs,Seg.cells,allOne,allOne_append,allOne_lump,Value.oneCell'])) fun h (I:Inv h (blk w.p_v6 (ρ.T 23) [.vec .u8 64 c.b12]::_))=> ?_
    refine ldL_r (I.lump 0 0 rfl) ?_
    try simp only [nrm_v]
    replace I:=I.drop1
    replace I:=I.drop1
    replace I:=I.drop1
    replace I:=I.drop1
    exact k c.b12 _ I H
theorem L4_r (I:I4 ρ c w A h) (H:L4 Q' c) (k:kt ρ A Q' Q):T4 (Tx.cipher_Block_L4 ρ Q) c w h:=by
  refine Lf.ind H (fun v=> ∀ (w:W) (h:Hp),I4 ρ v w A h→T4 (Tx.cipher_Block_L4 ρ Q) v w h) ?_ w h I
  rintro c S hS HB w h I
  refine Tx.cipher_Block_L4_in _ _ _ _ _ _ _ _ ?_
  try simp only [nrm_v]
  exact B4_r (c:=c) (w:=w) I HB (fun c w h I H=>hS _ H w h I) k
def B1 (S1:V→Prop) (Q:QT) (c:V):Prop:=
  br (decide (c.v20<(10:Int)))
  (L2 S1 Q {c with v22:=(0:Int)})
  (L4 Q {c with b12:=(Vector.replicate 64 (0:Int)),v55:=(0:Int)})
def L1 (Q:QT) (c:V):Prop:=Lf (fun S=>B1 S Q) c
theorem L1_in {Q:QT} {c:V} (H:B1 (L1 Q) Q c):L1 Q c:=Lf.fold H
theorem B1_r (I:I1 ρ c w A h) (H:B1 S1' Q' c) (kS1:k1t ρ A S1' S1) (k:kt ρ A Q' Q):T1 (Tx.cipher_Block_B1 ρ S1 Q) c w h:=by
  unfold I1 at I
  unfold T1 Tx.cipher_Block_B1
  unfold B1 at H
  refine br_r H (fun hb H=> ?_) (fun hb H=> ?_)
  · replace I := I.pull2.pull2.pull2
    exact L2_r (c:= {c with v22:=(0:Int)}) (w:=w) I H kS1 k
  · refine al_r [.vec .u8 64 (Vector.replicate 64 (0 : Int))] rfl I fun p_15 h I => ?_
    replace I:=I.pull3.pull3.pull3
    exact L4_r (c:= {c with b12:=(Vector.replicate 64 (0:Int)),v55:=(0:Int)}) (w:= {w with p_b12:=p_15}) I H k
theorem L1_r (I:I1 ρ c w A h) (H:L1 Q' c) (k:kt ρ A Q' Q):T1 (Tx.cipher_Block_L1 ρ Q) c w h:=by
  refine Lf.ind H (fun v=> ∀ (w:W) (h:Hp),I1 ρ v w A h→T1 (Tx.cipher_Block_L1 ρ Q) v w h) ?_ w h I
  rintro c S hS HB w h I
  refine Tx.cipher_Block_L1_in _ _ _ _ _ _ _ _ ?_
  try simp only [nrm_v]
  exact B1_r (c:=c) (w:=w) I HB (fun c w h I H=>hS _ H w h I) k
end cipher_Block
def cipher_Block (key0:Vector Int 32) (nonce1:Vector Int 12) (counter2:Int) (Q:cipher_Block.QT):Prop:=
  cipher_start key0 nonce1 counter2 fun r_7=>
  cipher_Block.L1 Q {cipher_Block.v0 with v6:=(Vector.replicate 64 (0:Int)),first7:=r_7,w8:=r_7,v20:=(0:Int)}
theorem cipher_Block_r {key0:Vector Int 32} {nonce1:Vector Int 12} {counter2:Int} {Q':cipher_Block.QT} {Q:cipher_Block.RT} (I:Inv h (A)) (H:cipher_Block key0 nonce1 counter2 Q')
    (k:cipher_Block.kt ρ A Q' Q):Tx.cipher_Block ρ key0.toList nonce1.toList counter2 h Q:=by
  unfold Tx.cipher_Block
  unfold cipher_Block at H
  try simp only [nrm_v]
  refine al_r [.vec .u8 32 key0] rfl I fun p_1 h I=> ?_
  refine al_r [.vec .u8 12 nonce1] rfl I fun p_3 h I=> ?_
  refine al_r [.vec .u8 64 (Vector.replicate 64 (0:Int))] rfl I fun p_5 h I=> ?_
  refine ldL_r (I.pull2.lump 0 0 rfl) ?_
  try simp only [nrm_v]
  refine ldL_r (I.pull1.lump 0 0 rfl) ?_
  try simp only [nrm_v]
  try simp only [nrm_v]
  refine cipher_start_r (key0:=key0) (nonce1:=nonce1) (counter2:=counter2) I H fun r_7 h I H=> ?_
  refine al_r [.vec .u32 16 (Vector.replicate 16 (0:Int))] rfl I fun p_8 h I=> ?_
  refine stA_r I 0 1 0 [.vec .u32 16 r_7] rfl rfl rfl (by first | exact all_segs rfl | exact all_one (by simp [segs,Seg.cells,allOne,allOne_append,allOne_lump,Value.oneCell'])) fun h (I:Inv h (blk p_8 (ρ.T 24) [.vec .u32 16 r_7]::_))=> ?_
  refine ldL_r (I.lump 0 0 rfl) ?_
  try simp only [nrm_v]
  refine al_r [.vec .u32 16 (Vector.replicate 16 (0:Int))] rfl I fun p_10 h I=> ?_
  refine stA_r I 0 1 0 [.vec .u32 16 r_7] rfl rfl rfl (by first | exact all_segs rfl | exact all_one (by simp [segs,Seg.cells,allOne,allOne_append,allOne_lump,Value.oneCell'])) fun h (I:Inv h (blk p_10 (ρ.T 24) [.vec .u32 16 r_7]::_))=> ?_
  replace I:=I.pull3.drop1
  replace I:=I.pull3.drop1
  replace I:=I.pull1.pull2
  exact cipher_Block.L1_r (c:= {cipher_Block.v0 with v6:=(Vector.replicate 64 (0:Int)),first7:=r_7,w8:=r_7,v20:=(0:Int)}) (w:= {cipher_Block.w0 with p_v6:=p_5,p_first7:=p_8,p_w8:=p_10}) I H k
namespace cipher_Turn
structure V where
  counter2:Int
  key4:Vector Int 32
  nonce5:Vector Int 12
  out9:List Int
  at10:Int
  s11:Vector Int 64
  v34:Int
  v35:Int
structure W where
  p_key4:Addr
  p_nonce5:Addr
  a_out9:Option Addr
  c_out9:Nat
  p_s11:Addr
def v0:V:=⟨0,Vector.replicate 32 0,Vector.replicate 12 0,[],0,Vector.replicate 64 0,0,0⟩
def w0:W:=⟨⟨0,0,none⟩,⟨0,0,none⟩,none,0,⟨0,0,none⟩⟩
abbrev QT:=(List Int)→Prop
abbrev RT:=Sl→Hp→Prop
def kt (ρ:Ids) (X_b3:At) (A:List At) (Q':QT) (Q:RT):Prop:=
  ∀ (r0:List Int) (ra0:Option Addr) (rc0:Nat) (h':Hp),Inv h' (ownS (rI .u8) ra0 r0.length rc0 r0::X_b3::A)→Q' r0→Q ⟨ra0,r0.length,rc0⟩ h'
def I1 (ρ:Ids) (X_b3:At) (c:V) (w:W) (A:List At) (h:Hp):Prop:=
  Inv h (X_b3::blk w.p_key4 (ρ.T 19) [.vec .u8 32 c.key4]::blk w.p_nonce5 (ρ.T 22) [.vec .u8 12 c.nonce5]::ownS (rI .u8) w.a_out9 c.out9.length w.c_out9 c.out9::A)
abbrev Y1:=Int→Addr→Addr→Sl→Int→Hp→Prop
abbrev T1 (X_b3:At) (S:Y1) (c:V) (w:W) (h:Hp):Prop:=S c.counter2 w.p_key4 w.p_nonce5 ⟨w.a_out9,c.out9.length,w.c_out9⟩ c.at10 h
def k1t (ρ:Ids) (X_b3:At) (A:List At) (S':V→Prop) (S:Y1):Prop:= ∀ (c:V) (w:W) (h:Hp),I1 ρ X_b3 c w A h→S' c→T1 X_b3 S c w h
def I2 (ρ:Ids) (X_b3:At) (c:V) (w:W) (A:List At) (h:Hp):Prop:=
  Inv h (X_b3::blk w.p_key4 (ρ.T 19) [.vec .u8 32 c.key4]::blk w.p_nonce5 (ρ.T 22) [.vec .u8 12 c.nonce5]::ownS (rI .u8) w.a_out9 c.out9.length w.c_out9 c.out9::blk w.p_s11 (ρ.T 23) [.vec .u8 64 c.s11]::A)
abbrev Y2:=Int→Addr→Addr→Sl→Int→Addr→Int→Int→Hp→Prop
abbrev T2 (X_b3:At) (S:Y2) (c:V) (w:W) (h:Hp):Prop:=S c.counter2 w.p_key4 w.p_nonce5 ⟨w.a_out9,c.out9.length,w.c_out9⟩ c.at10 w.p_s11 c.v34 c.v35 h
def k2t (ρ:Ids) (X_b3:At) (A:List At) (S':V→Prop) (S:Y2):Prop:= ∀ (c:V) (w:W) (h:Hp),I2 ρ X_b3 c w A h→S' c→T2 X_b3 S c w h
variable {X_b3:At} {c:V} {w:W} {Q':QT} {Q:RT} {S1' S2':V→Prop} {S1:Y1} {S2:Y2}
def B2 (S1:V→Prop) (S2:V→Prop) (Q:QT) (c:V):Prop:=
  br (decide (c.v35<c.v34))
  (ixP c.out9 (IntKind.wrap .i64 (c.at10+c.v35)) fun x_26=>
  ixP c.s11.toList c.v35 fun x_33=>
  ixP c.out9 (IntKind.wrap .i64 (c.at10+c.v35)) fun x_38=>
  S2 {c with out9:=(c.out9.set (Int.toNat (IntKind.wrap .i64 (c.at10+c.v35))) (IntKind.wrap .u8 (((BitVec.ofInt (IntKind.bits .u8) x_26 ^^^ (BitVec.ofInt (IntKind.bits .u8) x_33)).toNat:Int)))),v35:=(IntKind.wrap .i64 (c.v35+(1:Int)))})
  (S1 {c with counter2:=(IntKind.wrap .u32 (c.counter2+(1:Int))),at10:=(IntKind.wrap .i64 (c.at10+(64:Int)))})
def L2 (S1:V→Prop) (Q:QT) (c:V):Prop:=Lf (fun S=>B2 S1 S Q) c
theorem L2_in (S1:V→Prop) {Q:QT} {c:V} (H:B2 S1 (L2 S1 Q) Q c):L2 S1 Q c:=Lf.fold H
theorem B2_r (I:I2 ρ X_b3 c w A h) (H:B2 S1' S2' Q' c) (kS1:k1t ρ X_b3 A S1' S1) (kS2:k2t ρ X_b3 A S2' S2) (k:kt ρ X_b3 A Q' Q):T2 X_b3 (Tx.cipher_Turn_B2 ρ S1 S2 Q) c w h:=by
  unfold I2 at I
  unfold T2 Tx.cipher_Turn_B2
  unfold B2 at H
  refine br_r H (fun hb H=> ?_) (fun hb H=> ?_)
  · refine ixI_a rd_own I.pull3 (ixP_keep H) fun p_27 x_26 he_28 hb_29 hc_30 H => ?_
    obtain ⟨hg_31,H⟩:=H
    refine ldI_r hc_30 ?_
    refine ix_vec I.pull4 (j:=0) (off:=0) rfl (ixP_keep H) fun q_32 x_33 hq_34 hb_35 hc_36 H=> ?_
    obtain ⟨hg_37,H⟩:=H
    refine ldI_r hc_36 ?_
    refine ixI_a rd_own I.pull3 (ixP_keep H) fun p_39 x_38 he_40 hb_41 hc_42 H=> ?_
    obtain ⟨hg_43,H⟩:=H
    replace I:=I.repI (k:= .u8) (IntKind.wrap .u8 (((BitVec.ofInt (IntKind.bits .u8) x_26 ^^^ (BitVec.ofInt (IntKind.bits .u8) x_33)).toNat:Int)))
    replace I:=I.pull4.pull1
    refine st1_r (x:=(IntKind.wrap .u8 (((BitVec.ofInt (IntKind.bits .u8) x_26 ^^^ (BitVec.ofInt (IntKind.bits .u8) x_33)).toNat:Int)))) I he_40 hb_41 fun h I=> ?_
    have en:=own_len I
    replace I:=I.relenO
    try rw [show (⟨w.a_out9,c.out9.length,w.c_out9⟩:Sl)=⟨w.a_out9,(c.out9.set (Int.toNat (IntKind.wrap .i64 (c.at10+c.v35))) (IntKind.wrap .u8 (((BitVec.ofInt (IntKind.bits .u8) x_26 ^^^ (BitVec.ofInt (IntKind.bits .u8) x_33)).toNat:Int)))).length,w.c_out9⟩ from congrArg (fun k=>(⟨w.a_out9,k,w.c_out9⟩:Sl)) en]
    try rw [show Value.slice w.a_out9 c.out9.length w.c_out9=Value.slice w.a_out9 (c.out9.set (Int.toNat (IntKind.wrap .i64 (c.at10+c.v35))) (IntKind.wrap .u8 (((BitVec.ofInt (IntKind.bits .u8) x_26 ^^^ (BitVec.ofInt (IntKind.bits .u8) x_33)).toNat:Int)))).length w.c_out9 from congrArg (fun k=>Value.slice w.a_out9 k w.c_out9) en] at I
    clear en
    replace I:=I.pull4.pull1.pull4.pull4.pull4
    exact kS2 {c with out9:=(c.out9.set (Int.toNat (IntKind.wrap .i64 (c.at10+c.v35))) (IntKind.wrap .u8 (((BitVec.ofInt (IntKind.bits .u8) x_26 ^^^ (BitVec.ofInt (IntKind.bits .u8) x_33)).toNat:Int)))),v35:=(IntKind.wrap .i64 (c.v35+(1:Int)))} w _ I H
  · replace I := I.pull4.drop1
    replace I:=I.pull3.pull3.pull3.pull3
    exact kS1 {c with counter2:=(IntKind.wrap .u32 (c.counter2+(1:Int))),at10:=(IntKind.wrap .i64 (c.at10+(64:Int)))} w _ I H
theorem L2_r (I:I2 ρ X_b3 c w A h) (H:L2 S1' Q' c) (kS1:k1t ρ X_b3 A S1' S1) (k:kt ρ X_b3 A Q' Q):T2 X_b3 (Tx.cipher_Turn_L2 ρ S1 Q) c w h:=by
  refine Lf.ind H (fun v=> ∀ (w:W) (h:Hp),I2 ρ X_b3 v w A h→T2 X_b3 (Tx.cipher_Turn_L2 ρ S1 Q) v w h) ?_ w h I
  rintro c S hS HB w h I
  refine Tx.cipher_Turn_L2_in _ _ _ _ _ _ _ _ _ _ _ _ ?_
  try simp only [nrm_v]
  exact B2_r (c:=c) (w:=w) I HB kS1 (fun c w h I H=>hS _ H w h I) k
def B1 (S1:V→Prop) (Q:QT) (c:V):Prop:=
  br (decide (c.at10<(if (1048576:Int)<(c.out9.length:Int) then (1048576:Int) else (c.out9.length:Int))))
  (cipher_Block c.key4 c.nonce5 c.counter2 fun r_14=>
  (SlOk c.out9 c.at10 (if (c.out9.length:Int)<(IntKind.wrap .i64 (c.at10+(64:Int))) then (c.out9.length:Int) else (IntKind.wrap .i64 (c.at10+(64:Int)))))∧
  L2 S1 Q {c with s11:=r_14,v34:=((sub c.out9 c.at10 (if (c.out9.length:Int)<(IntKind.wrap .i64 (c.at10+(64:Int))) then (c.out9.length:Int) else (IntKind.wrap .i64 (c.at10+(64:Int))))).length:Int),v35:=(0:Int)})
  (Q c.out9)
def L1 (Q:QT) (c:V):Prop:=Lf (fun S=>B1 S Q) c
theorem L1_in {Q:QT} {c:V} (H:B1 (L1 Q) Q c):L1 Q c:=Lf.fold H
theorem B1_r (I:I1 ρ X_b3 c w A h) (H:B1 S1' Q' c) (kS1:k1t ρ X_b3 A S1' S1) (k:kt ρ X_b3 A Q' Q):T1 X_b3 (Tx.cipher_Turn_B1 ρ S1 Q) c w h:=by
  unfold I1 at I
  unfold T1 Tx.cipher_Turn_B1
  unfold B1 at H
  refine br_r H (fun hb H=> ?_) (fun hb H=> ?_)
  · refine ldL_r (I.pull1.lump 0 0 rfl) ?_
    try simp only [nrm_v]
    refine ldL_r (I.pull2.lump 0 0 rfl) ?_
    try simp only [nrm_v]
    try simp only [nrm_v]
    refine cipher_Block_r (key0:=c.key4) (nonce1:=c.nonce5) (counter2:=c.counter2) I H fun r_14 h I H=> ?_
    refine al_r [.vec .u8 64 (Vector.replicate 64 (0:Int))] rfl I fun p_15 h I=> ?_
    refine stA_r I 0 1 0 [.vec .u8 64 r_14] rfl rfl rfl (by first | exact all_segs rfl | exact all_one (by simp [segs,Seg.cells,allOne,allOne_append,allOne_lump,Value.oneCell'])) fun h (I:Inv h (blk p_15 (ρ.T 23) [.vec .u8 64 r_14]::_))=> ?_
    have hS_20:=H.1
    replace H:=H.2
    refine sl_part I.pull4 hS_20 ?_
    have hr_19:Rd (rI .u8) (ownS (rI .u8) w.a_out9 c.out9.length w.c_out9 c.out9) (resl w.a_out9 w.c_out9 1 ((Int.toNat c.at10:Nat):Int)) (sub c.out9 c.at10 (if (c.out9.length:Int)<(IntKind.wrap .i64 (c.at10+(64:Int))) then (c.out9.length:Int) else (IntKind.wrap .i64 (c.at10+(64:Int))))).length (w.c_out9 - Int.toNat c.at10) (sub c.out9 c.at10 (if (c.out9.length:Int)<(IntKind.wrap .i64 (c.at10+(64:Int))) then (c.out9.length:Int) else (IntKind.wrap .i64 (c.at10+(64:Int))))):=rd_part rd_own hS_20
    replace I:=I.pull4.pull4.pull4.pull4
    exact L2_r (c:= {c with s11:=r_14,v34:=((sub c.out9 c.at10 (if (c.out9.length:Int)<(IntKind.wrap .i64 (c.at10+(64:Int))) then (c.out9.length:Int) else (IntKind.wrap .i64 (c.at10+(64:Int))))).length:Int),v35:=(0:Int)}) (w:= {w with p_s11:=p_15}) I H kS1 k
  · replace I := I.pull1.drop1
    replace I:=I.pull1.drop1
    replace I:=I.pull1
    exact k c.out9 w.a_out9 w.c_out9 _ I H
theorem L1_r (I:I1 ρ X_b3 c w A h) (H:L1 Q' c) (k:kt ρ X_b3 A Q' Q):T1 X_b3 (Tx.cipher_Turn_L1 ρ Q) c w h:=by
  refine Lf.ind H (fun v=> ∀ (w:W) (h:Hp),I1 ρ X_b3 v w A h→T1 X_b3 (Tx.cipher_Turn_L1 ρ Q) v w h) ?_ w h I
  rintro c S hS HB w h I
  refine Tx.cipher_Turn_L1_in _ _ _ _ _ _ _ _ ?_
  try simp only [nrm_v]
  exact B1_r (c:=c) (w:=w) I HB (fun c w h I H=>hS _ H w h I) k
end cipher_Turn
def cipher_Turn (key0:Vector Int 32) (nonce1:Vector Int 12) (counter2:Int) (b3:List Int) (Q:cipher_Turn.QT):Prop:=
  (Bnd (([]:List Int).length+b3.length))∧
  cipher_Turn.L1 Q {cipher_Turn.v0 with counter2:=counter2,key4:=key0,nonce5:=nonce1,out9:=(([]:List Int)++b3),at10:=(0:Int)}
theorem cipher_Turn_r {key0:Vector Int 32} {nonce1:Vector Int 12} {counter2:Int} {b3:List Int} {a_b3:Option Addr} {c_b3:Nat} {n_b3:Nat} {X_b3:At} {Q':cipher_Turn.QT} {Q:cipher_Turn.RT} (hX_b3:Rd (rI .u8) X_b3 a_b3 n_b3 c_b3 b3) (I:Inv h (X_b3::A)) (H:cipher_Turn key0 nonce1 counter2 b3 Q')
    (k:cipher_Turn.kt ρ X_b3 A Q' Q):Tx.cipher_Turn ρ key0.toList nonce1.toList counter2 ⟨a_b3,n_b3,c_b3⟩ h Q:=by
  obtain rfl:=rd_len hX_b3 I
  unfold Tx.cipher_Turn
  unfold cipher_Turn at H
  try simp only [nrm_v]
  refine al_r [.vec .u8 32 key0] rfl I fun p_2 h I=> ?_
  refine al_r [.vec .u8 12 nonce1] rfl I fun p_4 h I=> ?_
  replace I:=I.nilO (rI .u8)
  refine ap_r hX_b3 I.pull3.pull1 rfl (by decide) (by decide) H.1 fun a_7 c_8 h I=> ?_
  replace H:=H.2
  replace I:=I.pull2.pull3.pull3
  exact cipher_Turn.L1_r (c:= {cipher_Turn.v0 with counter2:=counter2,key4:=key0,nonce5:=nonce1,out9:=(([]:List Int)++b3),at10:=(0:Int)}) (w:= {cipher_Turn.w0 with p_key4:=p_2,p_nonce5:=p_4,a_out9:=a_7,c_out9:=c_8}) I H k
namespace cipher_Nonce
structure V where
  epoch0:Int
  block1:Int
  v4:Vector Int 12
  n5:Vector Int 12
  v7:Int
structure W where
  p_v4:Addr
  p_n5:Addr
def v0:V:=⟨0,0,Vector.replicate 12 0,Vector.replicate 12 0,0⟩
def w0:W:=⟨⟨0,0,none⟩,⟨0,0,none⟩⟩
abbrev QT:=(Vector Int 12)→Prop
abbrev RT:=List Int→Hp→Prop
def kt (ρ:Ids) (A:List At) (Q':QT) (Q:RT):Prop:=
  ∀ (r0:Vector Int 12) (h':Hp),Inv h' (A)→Q' r0→Q r0.toList h'
def I1 (ρ:Ids) (c:V) (w:W) (A:List At) (h:Hp):Prop:=
  Inv h (blk w.p_v4 (ρ.T 22) [.vec .u8 12 c.v4]::blk w.p_n5 (ρ.T 22) [.vec .u8 12 c.n5]::A)
abbrev Y1:=Int→Int→Addr→Addr→Int→Hp→Prop
abbrev T1 (S:Y1) (c:V) (w:W) (h:Hp):Prop:=S c.epoch0 c.block1 w.p_v4 w.p_n5 c.v7 h
def k1t (ρ:Ids) (A:List At) (S':V→Prop) (S:Y1):Prop:= ∀ (c:V) (w:W) (h:Hp),I1 ρ c w A h→S' c→T1 S c w h
def I2 (ρ:Ids) (c:V) (w:W) (A:List At) (h:Hp):Prop:=
  Inv h (blk w.p_v4 (ρ.T 22) [.vec .u8 12 c.v4]::blk w.p_n5 (ρ.T 22) [.vec .u8 12 c.n5]::A)
variable {c:V} {w:W} {Q':QT} {Q:RT} {S1':V→Prop} {S1:Y1}
def K2 (S1:V→Prop) (Q:QT) (c:V):Prop:=
  S1 {c with v7:=(IntKind.wrap .i64 (c.v7+(1:Int)))}
theorem K2_r (I:I2 ρ c w A h) (H:K2 S1' Q' c) (kS1:k1t ρ A S1' S1) (k:kt ρ A Q' Q):Tx.cipher_Nonce_K2 ρ S1 Q c.epoch0 c.block1 w.p_v4 w.p_n5 c.v7 h:=by
  unfold I2 at I
  unfold Tx.cipher_Nonce_K2
  unfold K2 at H
  replace I:=I.pull1.pull1
  exact kS1 {c with v7:=(IntKind.wrap .i64 (c.v7+(1:Int)))} w _ I H
def B1 (S1:V→Prop) (Q:QT) (c:V):Prop:=
  br (decide (c.v7<(12:Int)))
  (br (decide (c.v7<(4:Int)))
  ((0≤(IntKind.wrap .i64 ((8:Int)*c.v7)))∧
  ixP c.n5.toList c.v7 fun x_8=>
  K2 S1 Q {c with n5:=(c.n5.setIfInBounds (Int.toNat c.v7) (IntKind.wrap .u8 (Int.fdiv c.epoch0 (2 ^ (min (Int.toNat (IntKind.wrap .i64 ((8:Int)*c.v7))) (IntKind.bits .u32))))))})
  ((0≤(IntKind.wrap .i64 ((8:Int)*(IntKind.wrap .i64 (c.v7 - (4:Int))))))∧
  ixP c.n5.toList c.v7 fun x_15=>
  K2 S1 Q {c with n5:=(c.n5.setIfInBounds (Int.toNat c.v7) (IntKind.wrap .u8 (Int.fdiv c.block1 (2 ^ (min (Int.toNat (IntKind.wrap .i64 ((8:Int)*(IntKind.wrap .i64 (c.v7 - (4:Int)))))) (IntKind.bits .u64))))))}))
  (Q c.n5)
def L1 (Q:QT) (c:V):Prop:=Lf (fun S=>B1 S Q) c
theorem L1_in {Q:QT} {c:V} (H:B1 (L1 Q) Q c):L1 Q c:=Lf.fold H
theorem B1_r (I:I1 ρ c w A h) (H:B1 S1' Q' c) (kS1:k1t ρ A S1' S1) (k:kt ρ A Q' Q):T1 (Tx.cipher_Nonce_B1 ρ S1 Q) c w h:=by
  unfold I1 at I
  unfold T1 Tx.cipher_Nonce_B1
  unfold B1 at H
  refine br_r H (fun hb H=> ?_) (fun hb H=> ?_)
  · refine br_r H (fun hb H => ?_) (fun hb H => ?_)
    · refine and_r H fun H => ?_
      refine ix_vec I.pull1 (j:=0) (off:=0) rfl (ixP_keep H) fun q_7 x_8 hq_9 hb_10 hc_11 H=> ?_
      obtain ⟨hg_12,H⟩:=H
      refine st_vec (I.pull1) (j:=0) (off:=0) rfl hq_9 hb_10 fun h I=> ?_
      replace I:=I.pull1
      exact K2_r (c:= {c with n5:=(c.n5.setIfInBounds (Int.toNat c.v7) (IntKind.wrap .u8 (Int.fdiv c.epoch0 (2 ^ (min (Int.toNat (IntKind.wrap .i64 ((8:Int)*c.v7))) (IntKind.bits .u32))))))}) (w:=w) I H kS1 k
    · refine and_r H fun H => ?_
      refine ix_vec I.pull1 (j:=0) (off:=0) rfl (ixP_keep H) fun q_14 x_15 hq_16 hb_17 hc_18 H=> ?_
      obtain ⟨hg_19,H⟩:=H
      refine st_vec (I.pull1) (j:=0) (off:=0) rfl hq_16 hb_17 fun h I=> ?_
      replace I:=I.pull1
      exact K2_r (c:= {c with n5:=(c.n5.setIfInBounds (Int.toNat c.v7) (IntKind.wrap .u8 (Int.fdiv c.block1 (2 ^ (min (Int.toNat (IntKind.wrap .i64 ((8:Int)*(IntKind.wrap .i64 (c.v7 - (4:Int)))))) (IntKind.bits .u64))))))}) (w:=w) I H kS1 k
  · refine ldL_r (I.pull1.lump 0 0 rfl) ?_
    try simp only [nrm_v]
    refine stA_r I 0 1 0 [.vec .u8 12 c.n5] rfl rfl rfl (by first | exact all_segs rfl | exact all_one (by simp [segs,Seg.cells,allOne,allOne_append,allOne_lump,Value.oneCell'])) fun h (I:Inv h (blk w.p_v4 (ρ.T 22) [.vec .u8 12 c.n5]::_))=> ?_
    refine ldL_r (I.lump 0 0 rfl) ?_
    try simp only [nrm_v]
    replace I:=I.drop1
    replace I:=I.drop1
    exact k c.n5 _ I H
theorem L1_r (I:I1 ρ c w A h) (H:L1 Q' c) (k:kt ρ A Q' Q):T1 (Tx.cipher_Nonce_L1 ρ Q) c w h:=by
  refine Lf.ind H (fun v=> ∀ (w:W) (h:Hp),I1 ρ v w A h→T1 (Tx.cipher_Nonce_L1 ρ Q) v w h) ?_ w h I
  rintro c S hS HB w h I
  refine Tx.cipher_Nonce_L1_in _ _ _ _ _ _ _ _ ?_
  try simp only [nrm_v]
  exact B1_r (c:=c) (w:=w) I HB (fun c w h I H=>hS _ H w h I) k
end cipher_Nonce
def cipher_Nonce (epoch0:Int) (block1:Int) (Q:cipher_Nonce.QT):Prop:=
  cipher_Nonce.L1 Q {cipher_Nonce.v0 with epoch0:=epoch0,block1:=block1,v4:=(Vector.replicate 12 (0:Int)),n5:=(Vector.replicate 12 (0:Int)),v7:=(0:Int)}
theorem cipher_Nonce_r {epoch0:Int} {block1:Int} {Q':cipher_Nonce.QT} {Q:cipher_Nonce.RT} (I:Inv h (A)) (H:cipher_Nonce epoch0 block1 Q')
    (k:cipher_Nonce.kt ρ A Q' Q):Tx.cipher_Nonce ρ epoch0 block1 h Q:=by
  unfold Tx.cipher_Nonce
  unfold cipher_Nonce at H
  refine al_r [.vec .u8 12 (Vector.replicate 12 (0:Int))] rfl I fun p_1 h I=> ?_
  refine al_r [.vec .u8 12 (Vector.replicate 12 (0:Int))] rfl I fun p_3 h I=> ?_
  replace I:=I.pull1
  exact cipher_Nonce.L1_r (c:= {cipher_Nonce.v0 with epoch0:=epoch0,block1:=block1,v4:=(Vector.replicate 12 (0:Int)),n5:=(Vector.replicate 12 (0:Int)),v7:=(0:Int)}) (w:= {cipher_Nonce.w0 with p_v4:=p_1,p_n5:=p_3}) I H k
namespace seal_Seal
structure V where
  epoch1:Int
  block2:Int
  page3:List Int
  key4:Vector Int 32
  v16:Bool
structure W where
  a_page3:Option Addr
  c_page3:Nat
  p_key4:Addr
def v0:V:=⟨0,0,[],Vector.replicate 32 0,false⟩
def w0:W:=⟨none,0,⟨0,0,none⟩⟩
abbrev QT:=(List Int)→Int→Prop
abbrev RT:=Sl→Int→Hp→Prop
def kt (ρ:Ids) (X_page3:At) (A:List At) (Q':QT) (Q:RT):Prop:=
  ∀ (r0:List Int) (ra0:Option Addr) (rc0:Nat) (r1:Int) (h':Hp),Inv h' (ownS (rI .u8) ra0 r0.length rc0 r0::X_page3::A)→Q' r0 r1→Q ⟨ra0,r0.length,rc0⟩ r1 h'
def I1 (ρ:Ids) (X_page3:At) (c:V) (w:W) (A:List At) (h:Hp):Prop:=
  Rd (rI .u8) X_page3 w.a_page3 c.page3.length w.c_page3 c.page3∧Inv h (X_page3::blk w.p_key4 (ρ.T 19) [.vec .u8 32 c.key4]::A)
variable {X_page3:At} {c:V} {w:W} {Q':QT} {Q:RT}
def K1 (Q:QT) (c:V):Prop:=
  br c.v16
  (Q ([]:List Int) (1:Int))
  (cipher_Nonce c.epoch1 (IntKind.wrap .u64 c.block2) fun r_7=>
  cipher_Turn c.key4 r_7 (0:Int) c.page3 fun r_8=>
  Q r_8 (0:Int))
theorem K1_r (I:I1 ρ X_page3 c w A h) (H:K1 Q' c) (k:kt ρ X_page3 A Q' Q):Tx.seal_Seal_K1 ρ Q c.epoch1 c.block2 ⟨w.a_page3,c.page3.length,w.c_page3⟩ w.p_key4 c.v16 h:=by
  obtain ⟨hX_page3,I⟩:=I
  unfold Tx.seal_Seal_K1
  unfold K1 at H
  refine br_r H (fun hb H=> ?_) (fun hb H=> ?_)
  · replace I := I.nilO (rI .u8)
    replace I:=I.pull2.drop1
    replace I:=I.pull1.pull1
    exact k ([]:List Int) none 0 (1:Int) _ I H
  · refine ldL_r (I.pull1.lump 0 0 rfl) ?_
    try simp only [nrm_v]
    refine cipher_Nonce_r (epoch0:=c.epoch1) (block1:=(IntKind.wrap .u64 c.block2)) I H fun r_7 h I H=> ?_
    refine ⟨⟨I.pull1.lump 0 0 rfl,trivial⟩, ?_⟩
    try simp only [nrm_v]
    refine cipher_Turn_r (key0:=c.key4) (nonce1:=r_7) (counter2:=(0:Int)) (b3:=c.page3) hX_page3 I H fun r_8 a_9 c_10 h I H=> ?_
    replace I:=I.pull2.drop1
    replace I:=I.pull1.pull1
    exact k r_8 a_9 c_10 (0:Int) _ I H
end seal_Seal
def seal_Seal (key0:Vector Int 32) (epoch1:Int) (block2:Int) (page3:List Int) (Q:seal_Seal.QT):Prop:=
  br ((page3.length:Int) !=(256:Int))
  (seal_Seal.K1 Q {seal_Seal.v0 with epoch1:=epoch1,block2:=block2,page3:=page3,key4:=key0,v16:=true})
  (seal_Seal.K1 Q {seal_Seal.v0 with epoch1:=epoch1,block2:=block2,page3:=page3,key4:=key0,v16:=(decide (block2<(0:Int)))})
theorem seal_Seal_r {key0:Vector Int 32} {epoch1:Int} {block2:Int} {page3:List Int} {a_page3:Option Addr} {c_page3:Nat} {n_page3:Nat} {X_page3:At} {Q':seal_Seal.QT} {Q:seal_Seal.RT} (hX_page3:Rd (rI .u8) X_page3 a_page3 n_page3 c_page3 page3) (I:Inv h (X_page3::A)) (H:seal_Seal key0 epoch1 block2 page3 Q')
    (k:seal_Seal.kt ρ X_page3 A Q' Q):Tx.seal_Seal ρ key0.toList epoch1 block2 ⟨a_page3,n_page3,c_page3⟩ h Q:=by
  obtain rfl:=rd_len hX_page3 I
  unfold Tx.seal_Seal
  unfold seal_Seal at H
  try simp only [nrm_v]
  refine al_r [.vec .u8 32 key0] rfl I fun p_2 h I=> ?_
  refine br_r H (fun hb H=> ?_) (fun hb H=> ?_)
  · replace I := I.pull1
    exact seal_Seal.K1_r (c:= {seal_Seal.v0 with epoch1:=epoch1,block2:=block2,page3:=page3,key4:=key0,v16:=true}) (w:= {seal_Seal.w0 with a_page3:=a_page3,c_page3:=c_page3,p_key4:=p_2}) ⟨hX_page3,I⟩ H k
  · replace I := I.pull1
    exact seal_Seal.K1_r (c:= {seal_Seal.v0 with epoch1:=epoch1,block2:=block2,page3:=page3,key4:=key0,v16:=(decide (block2<(0:Int)))}) (w:= {seal_Seal.w0 with a_page3:=a_page3,c_page3:=c_page3,p_key4:=p_2}) ⟨hX_page3,I⟩ H k
def seal_isPlace (n0:Int) (Q:Bool→Prop):Prop:=
  br (n0==(0:Int))
  (Q true)
  (Q (n0==(1:Int)))
theorem seal_isPlace_r {n0:Int} {Q':Bool→Prop} {Q:Bool→Hp→Prop} (I:Inv h (A)) (H:seal_isPlace n0 Q')
    (k: ∀ (r0:Bool) (h':Hp),Inv h' (A)→Q' r0→Q r0 h'):Tx.seal_isPlace ρ n0 h Q:=by
  unfold Tx.seal_isPlace
  unfold seal_isPlace at H
  refine br_r H (fun hb H=> ?_) (fun hb H=> ?_)
  · exact k true _ I H
  · exact k (n0==(1:Int)) _ I H
def bytes_Clone (s0:List Int) (Q:List Int→Prop):Prop:=cloneP s0 Q
theorem bytes_Clone_r {ρ:Ids} {h:Hp} {A:List At} {s0:List Int} {a:Option Addr} {nl c:Nat} {X:At} {Q':List Int→Prop} {Q:Sl→Hp→Prop} (hX:Rd (rI .u8) X a nl c s0) (I:Inv h (X::A)) (H:bytes_Clone s0 Q')
    (k: ∀ (r:List Int) (ra:Option Addr) (rc:Nat) (h':Hp),Inv h' (ownS (rI .u8) ra r.length rc r::X::A)→Q' r→Q ⟨ra,r.length,rc⟩ h'):Tx.bytes_Clone ρ ⟨a,nl,c⟩ h Q:=by
  unfold Tx.bytes_Clone
  exact clone_r hX I (by decide) rfl (by decide) (by decide) H k
def sha_New (Q:sha_State→Prop):Prop:=
  Q (⟨(Vector.replicate 8 (0:Int)),([]:List Int),(0:Int)⟩:sha_State)
theorem sha_New_r {Q':sha_State→Prop} {Q:List Int→Sl→Int→Hp→Prop} (I:Inv h (A)) (H:sha_New Q')
    (k: ∀ (r0:sha_State) (ra0_1:Option Addr) (rc0_1:Nat) (h':Hp),Inv h' (roS (rI .u8) ra0_1 r0.rest.length rc0_1 r0.rest::A)→Q' r0→Q r0.h.toList ⟨ra0_1,r0.rest.length,rc0_1⟩ r0.n h'):Tx.sha_New ρ h Q:=by
  unfold Tx.sha_New
  unfold sha_New at H
  refine al_r [.vec .u32 8 (Vector.replicate 8 (0:Int)), .one (.slice none 0 0), .one (.int .u64 (0:Int))] rfl I fun p_1 h I=> ?_
  refine stA_r I 0 3 0 [.vec .u32 8 (Vector.replicate 8 (0:Int)), .one (.slice none 0 0), .one (.int .u64 (0:Int))] rfl rfl rfl (by first | exact all_segs rfl | exact all_one (by simp [segs,Seg.cells,allOne,allOne_append,allOne_lump,Value.oneCell'])) fun h (I:Inv h (blk p_1 (ρ.T 27) [.vec .u32 8 (Vector.replicate 8 (0:Int)), .one (.slice none 0 0), .one (.int .u64 (0:Int))]::_))=> ?_
  refine ldL_r (I.lump 0 0 rfl) ?_
  refine ldS_r (I.cell 1 8 rfl) ?_
  refine ldI_r (I.cell 2 9 rfl) ?_
  try simp only [nrm_v]
  replace I:=I.nilR (rI .u8)
  replace I:=I.pull1.drop1
  exact k (⟨(Vector.replicate 8 (0:Int)),([]:List Int),(0:Int)⟩:sha_State) none 0 _ I H
def sha_first (Q:(Vector Int 8)→Prop):Prop:=
  Q (#v[(1779033703:Int),(3144134277:Int),(1013904242:Int),(2773480762:Int),(1359893119:Int),(2600822924:Int),(528734635:Int),(1541459225:Int)])
theorem sha_first_r {Q':(Vector Int 8)→Prop} {Q:List Int→Hp→Prop} (I:Inv h (A)) (H:sha_first Q')
    (k: ∀ (r0:Vector Int 8) (h':Hp),Inv h' (A)→Q' r0→Q r0.toList h'):Tx.sha_first ρ h Q:=by
  unfold Tx.sha_first
  unfold sha_first at H
  refine al_r [.vec .u32 8 (Vector.replicate 8 (0:Int))] rfl I fun p_1 h I=> ?_
  refine stA_r I 0 1 0 [.vec .u32 8 (#v[(1779033703:Int),(3144134277:Int),(1013904242:Int),(2773480762:Int),(1359893119:Int),(2600822924:Int),(528734635:Int),(1541459225:Int)])] rfl rfl rfl (by first | exact all_segs rfl | exact all_one (by simp [segs,Seg.cells,allOne,allOne_append,allOne_lump,Value.oneCell'])) fun h (I:Inv h (blk p_1 (ρ.T 28) [.vec .u32 8 (#v[(1779033703:Int),(3144134277:Int),(1013904242:Int),(2773480762:Int),(1359893119:Int),(2600822924:Int),(528734635:Int),(1541459225:Int)])]::_))=> ?_
  refine ldL_r (I.lump 0 0 rfl) ?_
  try simp only [nrm_v]
  replace I:=I.drop1
  exact k (#v[(1779033703:Int),(3144134277:Int),(1013904242:Int),(2773480762:Int),(1359893119:Int),(2600822924:Int),(528734635:Int),(1541459225:Int)]) _ I H
def sha_Turn (x0:Int) (n1:Int) (Q:Int→Prop):Prop:=
  math_bits_RotateLeft32 x0 (IntKind.wrap .i64 (0 - (Int.tmod n1 (32:Int)))) fun r_1=>
  Q r_1
theorem sha_Turn_r {x0:Int} {n1:Int} {Q':Int→Prop} {Q:Int→Hp→Prop} (I:Inv h (A)) (H:sha_Turn x0 n1 Q')
    (k: ∀ (r0:Int) (h':Hp),Inv h' (A)→Q' r0→Q r0 h'):Tx.sha_Turn ρ x0 n1 h Q:=by
  unfold Tx.sha_Turn
  unfold sha_Turn at H
  refine ⟨by decide, ?_⟩
  refine math_bits_RotateLeft32_r (x0:=x0) (k1:=(IntKind.wrap .i64 (0 - (Int.tmod n1 (32:Int))))) I H fun r_1 h I H=> ?_
  exact k r_1 _ I H
namespace sha_join
structure V where
  w3:Int
  v6:List Int
  v7:Int
  v8:Int
structure W where
  a_v6:Option Addr
  c_v6:Nat
def v0:V:=⟨0,[],0,0⟩
def w0:W:=⟨none,0⟩
abbrev QT:=Int→Prop
abbrev RT:=Int→Hp→Prop
def kt (ρ:Ids) (X_b0:At) (A:List At) (Q':QT) (Q:RT):Prop:=
  ∀ (r0:Int) (h':Hp),Inv h' (X_b0::A)→Q' r0→Q r0 h'
def I1 (ρ:Ids) (X_b0:At) (c:V) (w:W) (A:List At) (h:Hp):Prop:=
  Rd (rI .u8) X_b0 w.a_v6 c.v6.length w.c_v6 c.v6∧Inv h (X_b0::A)
abbrev Y1:=Int→Sl→Int→Int→Hp→Prop
abbrev T1 (X_b0:At) (S:Y1) (c:V) (w:W) (h:Hp):Prop:=S c.w3 ⟨w.a_v6,c.v6.length,w.c_v6⟩ c.v7 c.v8 h
def k1t (ρ:Ids) (X_b0:At) (A:List At) (S':V→Prop) (S:Y1):Prop:= ∀ (c:V) (w:W) (h:Hp),I1 ρ X_b0 c w A h→S' c→T1 X_b0 S c w h
variable {X_b0:At} {c:V} {w:W} {Q':QT} {Q:RT} {S1':V→Prop} {S1:Y1}
def B1 (S1:V→Prop) (Q:QT) (c:V):Prop:=
  br (decide (c.v8<c.v7))
  (ixP c.v6 c.v8 fun x_3=>
  S1 {c with w3:=(IntKind.wrap .u32 (((BitVec.ofInt (IntKind.bits .u32) (IntKind.wrap .u32 (c.w3*2 ^ (min (Int.toNat (8:Int)) (IntKind.bits .u32)))) ||| (BitVec.ofInt (IntKind.bits .u32) (IntKind.wrap .u32 x_3))).toNat:Int))),v8:=(IntKind.wrap .i64 (c.v8+(1:Int)))})
  (Q c.w3)
def L1 (Q:QT) (c:V):Prop:=Lf (fun S=>B1 S Q) c
theorem L1_in {Q:QT} {c:V} (H:B1 (L1 Q) Q c):L1 Q c:=Lf.fold H
theorem B1_r (I:I1 ρ X_b0 c w A h) (H:B1 S1' Q' c) (kS1:k1t ρ X_b0 A S1' S1) (k:kt ρ X_b0 A Q' Q):T1 X_b0 (Tx.sha_join_B1 ρ S1 Q) c w h:=by
  obtain ⟨hX_v6,I⟩:=I
  unfold T1 Tx.sha_join_B1
  unfold B1 at H
  refine br_r H (fun hb H=> ?_) (fun hb H=> ?_)
  · refine ixI_a hX_v6 I (ixP_keep H) fun p_4 x_3 he_5 hb_6 hc_7 H => ?_
    obtain ⟨hg_8,H⟩:=H
    refine ldI_r hc_7 ?_
    refine ⟨by decide, ?_⟩
    exact kS1 {c with w3:=(IntKind.wrap .u32 (((BitVec.ofInt (IntKind.bits .u32) (IntKind.wrap .u32 (c.w3*2 ^ (min (Int.toNat (8:Int)) (IntKind.bits .u32)))) ||| (BitVec.ofInt (IntKind.bits .u32) (IntKind.wrap .u32 x_3))).toNat:Int))),v8:=(IntKind.wrap .i64 (c.v8+(1:Int)))} w _ ⟨hX_v6,I⟩ H
  · exact k c.w3 _ I H
theorem L1_r (I:I1 ρ X_b0 c w A h) (H:L1 Q' c) (k:kt ρ X_b0 A Q' Q):T1 X_b0 (Tx.sha_join_L1 ρ Q) c w h:=by
  refine Lf.ind H (fun v=> ∀ (w:W) (h:Hp),I1 ρ X_b0 v w A h→T1 X_b0 (Tx.sha_join_L1 ρ Q) v w h) ?_ w h I
  rintro c S hS HB w h I
  refine Tx.sha_join_L1_in _ _ _ _ _ _ _ ?_
  try simp only [nrm_v]
  exact B1_r (c:=c) (w:=w) I HB (fun c w h I H=>hS _ H w h I) k
end sha_join
def sha_join (b0:List Int) (Q:sha_join.QT):Prop:=
  sha_join.L1 Q {sha_join.v0 with w3:=(0:Int),v6:=b0,v7:=(b0.length:Int),v8:=(0:Int)}
theorem sha_join_r {b0:List Int} {a_b0:Option Addr} {c_b0:Nat} {n_b0:Nat} {X_b0:At} {Q':sha_join.QT} {Q:sha_join.RT} (hX_b0:Rd (rI .u8) X_b0 a_b0 n_b0 c_b0 b0) (I:Inv h (X_b0::A)) (H:sha_join b0 Q')
    (k:sha_join.kt ρ X_b0 A Q' Q):Tx.sha_join ρ ⟨a_b0,n_b0,c_b0⟩ h Q:=by
  obtain rfl:=rd_len hX_b0 I
  unfold Tx.sha_join
  unfold sha_join at H
  exact sha_join.L1_r (c:= {sha_join.v0 with w3:=(0:Int),v6:=b0,v7:=(b0.length:Int),v8:=(0:Int)}) (w:= {sha_join.w0 with a_v6:=a_b0,c_v6:=c_b0}) ⟨hX_b0,I⟩ H k
namespace sha_spread
structure V where
  b0:List Int
  v2:Vector Int 64
  w3:Vector Int 64
  v9:Int
structure W where
  a_b0:Option Addr
  c_b0:Nat
  p_v2:Addr
  p_w3:Addr
def v0:V:=⟨[],Vector.replicate 64 0,Vector.replicate 64 0,0⟩
def w0:W:=⟨none,0,⟨0,0,none⟩,⟨0,0,none⟩⟩
abbrev QT:=(Vector Int 64)→Prop
abbrev RT:=List Int→Hp→Prop
def kt (ρ:Ids) (X_b0:At) (A:List At) (Q':QT) (Q:RT):Prop:=
  ∀ (r0:Vector Int 64) (h':Hp),Inv h' (X_b0::A)→Q' r0→Q r0.toList h'
def I1 (ρ:Ids) (X_b0:At) (c:V) (w:W) (A:List At) (h:Hp):Prop:=
  Rd (rI .u8) X_b0 w.a_b0 c.b0.length w.c_b0 c.b0∧Inv h (X_b0::blk w.p_v2 (ρ.T 29) [.vec .u32 64 c.v2]::blk w.p_w3 (ρ.T 29) [.vec .u32 64 c.w3]::A)
abbrev Y1:=Sl→Addr→Addr→Int→Hp→Prop
abbrev T1 (X_b0:At) (S:Y1) (c:V) (w:W) (h:Hp):Prop:=S ⟨w.a_b0,c.b0.length,w.c_b0⟩ w.p_v2 w.p_w3 c.v9 h
def k1t (ρ:Ids) (X_b0:At) (A:List At) (S':V→Prop) (S:Y1):Prop:= ∀ (c:V) (w:W) (h:Hp),I1 ρ X_b0 c w A h→S' c→T1 X_b0 S c w h
def I2 (ρ:Ids) (X_b0:At) (c:V) (w:W) (A:List At) (h:Hp):Prop:=
  Rd (rI .u8) X_b0 w.a_b0 c.b0.length w.c_b0 c.b0∧Inv h (X_b0::blk w.p_v2 (ρ.T 29) [.vec .u32 64 c.v2]::blk w.p_w3 (ρ.T 29) [.vec .u32 64 c.w3]::A)
variable {X_b0:At} {c:V} {w:W} {Q':QT} {Q:RT} {S1':V→Prop} {S1:Y1}
def K2 (S1:V→Prop) (Q:QT) (c:V):Prop:=
  S1 {c with v9:=(IntKind.wrap .i64 (c.v9+(1:Int)))}
theorem K2_r (I:I2 ρ X_b0 c w A h) (H:K2 S1' Q' c) (kS1:k1t ρ X_b0 A S1' S1) (k:kt ρ X_b0 A Q' Q):Tx.sha_spread_K2 ρ S1 Q ⟨w.a_b0,c.b0.length,w.c_b0⟩ w.p_v2 w.p_w3 c.v9 h:=by
  obtain ⟨hX_b0,I⟩:=I
  unfold Tx.sha_spread_K2
  unfold K2 at H
  replace I:=I.pull2.pull2.pull2
  exact kS1 {c with v9:=(IntKind.wrap .i64 (c.v9+(1:Int)))} w _ ⟨hX_b0,I⟩ H
def B1 (S1:V→Prop) (Q:QT) (c:V):Prop:=
  br (decide (c.v9<(64:Int)))
  (br (decide (c.v9<(16:Int)))
  ((SlOk c.b0 (IntKind.wrap .i64 ((4:Int)*c.v9)) (IntKind.wrap .i64 ((IntKind.wrap .i64 ((4:Int)*c.v9))+(4:Int))))∧
  sha_join (sub c.b0 (IntKind.wrap .i64 ((4:Int)*c.v9)) (IntKind.wrap .i64 ((IntKind.wrap .i64 ((4:Int)*c.v9))+(4:Int)))) fun r_12=>
  ixP c.w3.toList c.v9 fun x_14=>
  K2 S1 Q {c with w3:=(c.w3.setIfInBounds (Int.toNat c.v9) r_12)})
  (ixP c.w3.toList (IntKind.wrap .i64 (c.v9 - (15:Int))) fun x_21=>
  ixP c.w3.toList (IntKind.wrap .i64 (c.v9 - (2:Int))) fun x_27=>
  sha_Turn x_21 (7:Int) fun r_32=>
  sha_Turn x_21 (18:Int) fun r_33=>
  sha_Turn x_27 (17:Int) fun r_34=>
  sha_Turn x_27 (19:Int) fun r_35=>
  ixP c.w3.toList (IntKind.wrap .i64 (c.v9 - (7:Int))) fun x_37=>
  ixP c.w3.toList (IntKind.wrap .i64 (c.v9 - (16:Int))) fun x_43=>
  ixP c.w3.toList c.v9 fun x_49=>
  K2 S1 Q {c with w3:=(c.w3.setIfInBounds (Int.toNat c.v9) (IntKind.wrap .u32 ((IntKind.wrap .u32 ((IntKind.wrap .u32 ((IntKind.wrap .u32 (((BitVec.ofInt (IntKind.bits .u32) (IntKind.wrap .u32 (((BitVec.ofInt (IntKind.bits .u32) r_34 ^^^ (BitVec.ofInt (IntKind.bits .u32) r_35)).toNat:Int))) ^^^ (BitVec.ofInt (IntKind.bits .u32) (Int.fdiv x_27 (2 ^ (min (Int.toNat (10:Int)) (IntKind.bits .u32)))))).toNat:Int)))+x_37))+(IntKind.wrap .u32 (((BitVec.ofInt (IntKind.bits .u32) (IntKind.wrap .u32 (((BitVec.ofInt (IntKind.bits .u32) r_32 ^^^ (BitVec.ofInt (IntKind.bits .u32) r_33)).toNat:Int))) ^^^ (BitVec.ofInt (IntKind.bits .u32) (Int.fdiv x_21 (2 ^ (min (Int.toNat (3:Int)) (IntKind.bits .u32)))))).toNat:Int)))))+x_43)))}))
  (Q c.w3)
def L1 (Q:QT) (c:V):Prop:=Lf (fun S=>B1 S Q) c
theorem L1_in {Q:QT} {c:V} (H:B1 (L1 Q) Q c):L1 Q c:=Lf.fold H
theorem B1_r (I:I1 ρ X_b0 c w A h) (H:B1 S1' Q' c) (kS1:k1t ρ X_b0 A S1' S1) (k:kt ρ X_b0 A Q' Q):T1 X_b0 (Tx.sha_spread_B1 ρ S1 Q) c w h:=by
  obtain ⟨hX_b0,I⟩:=I
  unfold T1 Tx.sha_spread_B1
  unfold B1 at H
  refine br_r H (fun hb H=> ?_) (fun hb H=> ?_)
  · refine br_r H (fun hb H => ?_) (fun hb H => ?_)
    · refine sl_rd hX_b0 I H.1 fun a_9 c_10 hr_11 => ?_
      replace H:=H.2
      refine sha_join_r (b0:=(sub c.b0 (IntKind.wrap .i64 ((4:Int)*c.v9)) (IntKind.wrap .i64 ((IntKind.wrap .i64 ((4:Int)*c.v9))+(4:Int))))) hr_11 I H fun r_12 h I H=> ?_
      refine ix_vec I.pull2 (j:=0) (off:=0) rfl (ixP_keep H) fun q_13 x_14 hq_15 hb_16 hc_17 H=> ?_
      obtain ⟨hg_18,H⟩:=H
      refine st_vec (I.pull2) (j:=0) (off:=0) rfl hq_15 hb_16 fun h I=> ?_
      replace I:=I.pull2.pull2
      exact K2_r (c:= {c with w3:=(c.w3.setIfInBounds (Int.toNat c.v9) r_12)}) (w:=w) ⟨hX_b0,I⟩ H kS1 k
    · refine ix_vec I.pull2 (j := 0) (off := 0) rfl (ixP_keep H) fun q_20 x_21 hq_22 hb_23 hc_24 H => ?_
      obtain ⟨hg_25,H⟩:=H
      refine ldI_r hc_24 ?_
      refine ix_vec I.pull2 (j:=0) (off:=0) rfl (ixP_keep H) fun q_26 x_27 hq_28 hb_29 hc_30 H=> ?_
      obtain ⟨hg_31,H⟩:=H
      refine ldI_r hc_30 ?_
      refine sha_Turn_r (x0:=x_21) (n1:=(7:Int)) I H fun r_32 h I H=> ?_
      refine sha_Turn_r (x0:=x_21) (n1:=(18:Int)) I H fun r_33 h I H=> ?_
      refine ⟨by decide, ?_⟩
      refine sha_Turn_r (x0:=x_27) (n1:=(17:Int)) I H fun r_34 h I H=> ?_
      refine sha_Turn_r (x0:=x_27) (n1:=(19:Int)) I H fun r_35 h I H=> ?_
      refine ⟨by decide, ?_⟩
      refine ix_vec I.pull2 (j:=0) (off:=0) rfl (ixP_keep H) fun q_36 x_37 hq_38 hb_39 hc_40 H=> ?_
      obtain ⟨hg_41,H⟩:=H
      refine ldI_r hc_40 ?_
      refine ix_vec I.pull2 (j:=0) (off:=0) rfl (ixP_keep H) fun q_42 x_43 hq_44 hb_45 hc_46 H=> ?_
      obtain ⟨hg_47,H⟩:=H
      refine ldI_r hc_46 ?_
      refine ix_vec I.pull2 (j:=0) (off:=0) rfl (ixP_keep H) fun q_48 x_49 hq_50 hb_51 hc_52 H=> ?_
      obtain ⟨hg_53,H⟩:=H
      refine st_vec (I.pull2) (j:=0) (off:=0) rfl hq_50 hb_51 fun h I=> ?_
      replace I:=I.pull2.pull2
      exact K2_r (c:= {c with w3:=(c.w3.setIfInBounds (Int.toNat c.v9) (IntKind.wrap .u32 ((IntKind.wrap .u32 ((IntKind.wrap .u32 ((IntKind.wrap .u32 (((BitVec.ofInt (IntKind.bits .u32) (IntKind.wrap .u32 (((BitVec.ofInt (IntKind.bits .u32) r_34 ^^^ (BitVec.ofInt (IntKind.bits .u32) r_35)).toNat:Int))) ^^^ (BitVec.ofInt (IntKind.bits .u32) (Int.fdiv x_27 (2 ^ (min (Int.toNat (10:Int)) (IntKind.bits .u32)))))).toNat:Int)))+x_37))+(IntKind.wrap .u32 (((BitVec.ofInt (IntKind.bits .u32) (IntKind.wrap .u32 (((BitVec.ofInt (IntKind.bits .u32) r_32 ^^^ (BitVec.ofInt (IntKind.bits .u32) r_33)).toNat:Int))) ^^^ (BitVec.ofInt (IntKind.bits .u32) (Int.fdiv x_21 (2 ^ (min (Int.toNat (3:Int)) (IntKind.bits .u32)))))).toNat:Int)))))+x_43)))}) (w:=w) ⟨hX_b0,I⟩ H kS1 k
  · refine ldL_r (I.pull2.lump 0 0 rfl) ?_
    try simp only [nrm_v]
    refine stA_r I.pull1 0 1 0 [.vec .u32 64 c.w3] rfl rfl rfl (by first | exact all_segs rfl | exact all_one (by simp [segs,Seg.cells,allOne,allOne_append,allOne_lump,Value.oneCell'])) fun h (I:Inv h (blk w.p_v2 (ρ.T 29) [.vec .u32 64 c.w3]::_))=> ?_
    refine ldL_r (I.lump 0 0 rfl) ?_
    try simp only [nrm_v]
    replace I:=I.drop1
    replace I:=I.pull1.drop1
    exact k c.w3 _ I H
theorem L1_r (I:I1 ρ X_b0 c w A h) (H:L1 Q' c) (k:kt ρ X_b0 A Q' Q):T1 X_b0 (Tx.sha_spread_L1 ρ Q) c w h:=by
  refine Lf.ind H (fun v=> ∀ (w:W) (h:Hp),I1 ρ X_b0 v w A h→T1 X_b0 (Tx.sha_spread_L1 ρ Q) v w h) ?_ w h I
  rintro c S hS HB w h I
  refine Tx.sha_spread_L1_in _ _ _ _ _ _ _ ?_
  try simp only [nrm_v]
  exact B1_r (c:=c) (w:=w) I HB (fun c w h I H=>hS _ H w h I) k
end sha_spread
def sha_spread (b0:List Int) (Q:sha_spread.QT):Prop:=
  sha_spread.L1 Q {sha_spread.v0 with b0:=b0,v2:=(Vector.replicate 64 (0:Int)),w3:=(Vector.replicate 64 (0:Int)),v9:=(0:Int)}
theorem sha_spread_r {b0:List Int} {a_b0:Option Addr} {c_b0:Nat} {n_b0:Nat} {X_b0:At} {Q':sha_spread.QT} {Q:sha_spread.RT} (hX_b0:Rd (rI .u8) X_b0 a_b0 n_b0 c_b0 b0) (I:Inv h (X_b0::A)) (H:sha_spread b0 Q')
    (k:sha_spread.kt ρ X_b0 A Q' Q):Tx.sha_spread ρ ⟨a_b0,n_b0,c_b0⟩ h Q:=by
  obtain rfl:=rd_len hX_b0 I
  unfold Tx.sha_spread
  unfold sha_spread at H
  refine al_r [.vec .u32 64 (Vector.replicate 64 (0:Int))] rfl I fun p_2 h I=> ?_
  refine al_r [.vec .u32 64 (Vector.replicate 64 (0:Int))] rfl I fun p_4 h I=> ?_
  replace I:=I.pull1.pull2
  exact sha_spread.L1_r (c:= {sha_spread.v0 with b0:=b0,v2:=(Vector.replicate 64 (0:Int)),w3:=(Vector.replicate 64 (0:Int)),v9:=(0:Int)}) (w:= {sha_spread.w0 with a_b0:=a_b0,c_b0:=c_b0,p_v2:=p_2,p_w3:=p_4}) ⟨hX_b0,I⟩ H k
def sha_constants (Q:(Vector Int 64)→Prop):Prop:=
  Q (#v[(1116352408:Int),(1899447441:Int),(3049323471:Int),(3921009573:Int),(961987163:Int),(1508970993:Int),(2453635748:Int),(2870763221:Int),(3624381080:Int),(310598401:Int),(607225278:Int),(1426881987:Int),(1925078388:Int),(2162078206:Int),(2614888103:Int),(3248222580:Int),(3835390401:Int),(4022224774:Int),(264347078:Int),(604807628:Int),(770255983:Int),(1249150122:Int),(1555081692:Int),(1996064986:Int),(2554220882:Int),(2821834349:Int),(2952996808:Int),(3210313671:Int),(3336571891:Int),(3584528711:Int),(113926993:Int),(338241895:Int),(666307205:Int),(773529912:Int),(1294757372:Int),(1396182291:Int),(1695183700:Int),(1986661051:Int),(2177026350:Int),(2456956037:Int),(2730485921:Int),(2820302411:Int),(3259730800:Int),(3345764771:Int),(3516065817:Int),(3600352804:Int),(4094571909:Int),(275423344:Int),(430227734:Int),(506948616:Int),(659060556:Int),(883997877:Int),(958139571:Int),(1322822218:Int),(1537002063:Int),(1747873779:Int),(1955562222:Int),(2024104815:Int),(2227730452:Int),(2361852424:Int),(2428436474:Int),(2756734187:Int),(3204031479:Int),(3329325298:Int)])
theorem sha_constants_r {Q':(Vector Int 64)→Prop} {Q:List Int→Hp→Prop} (I:Inv h (A)) (H:sha_constants Q')
    (k: ∀ (r0:Vector Int 64) (h':Hp),Inv h' (A)→Q' r0→Q r0.toList h'):Tx.sha_constants ρ h Q:=by
  unfold Tx.sha_constants
  unfold sha_constants at H
  refine al_r [.vec .u32 64 (Vector.replicate 64 (0:Int))] rfl I fun p_1 h I=> ?_
  refine stA_r I 0 1 0 [.vec .u32 64 (#v[(1116352408:Int),(1899447441:Int),(3049323471:Int),(3921009573:Int),(961987163:Int),(1508970993:Int),(2453635748:Int),(2870763221:Int),(3624381080:Int),(310598401:Int),(607225278:Int),(1426881987:Int),(1925078388:Int),(2162078206:Int),(2614888103:Int),(3248222580:Int),(3835390401:Int),(4022224774:Int),(264347078:Int),(604807628:Int),(770255983:Int),(1249150122:Int),(1555081692:Int),(1996064986:Int),(2554220882:Int),(2821834349:Int),(2952996808:Int),(3210313671:Int),(3336571891:Int),(3584528711:Int),(113926993:Int),(338241895:Int),(666307205:Int),(773529912:Int),(1294757372:Int),(1396182291:Int),(1695183700:Int),(1986661051:Int),(2177026350:Int),(2456956037:Int),(2730485921:Int),(2820302411:Int),(3259730800:Int),(3345764771:Int),(3516065817:Int),(3600352804:Int),(4094571909:Int),(275423344:Int),(430227734:Int),(506948616:Int),(659060556:Int),(883997877:Int),(958139571:Int),(1322822218:Int),(1537002063:Int),(1747873779:Int),(1955562222:Int),(2024104815:Int),(2227730452:Int),(2361852424:Int),(2428436474:Int),(2756734187:Int),(3204031479:Int),(3329325298:Int)])] rfl rfl rfl (by first | exact all_segs rfl | exact all_one (by simp [segs,Seg.cells,allOne,allOne_append,allOne_lump,Value.oneCell'])) fun h (I:Inv h (blk p_1 (ρ.T 29) [.vec .u32 64 (#v[(1116352408:Int),(1899447441:Int),(3049323471:Int),(3921009573:Int),(961987163:Int),(1508970993:Int),(2453635748:Int),(2870763221:Int),(3624381080:Int),(310598401:Int),(607225278:Int),(1426881987:Int),(1925078388:Int),(2162078206:Int),(2614888103:Int),(3248222580:Int),(3835390401:Int),(4022224774:Int),(264347078:Int),(604807628:Int),(770255983:Int),(1249150122:Int),(1555081692:Int),(1996064986:Int),(2554220882:Int),(2821834349:Int),(2952996808:Int),(3210313671:Int),(3336571891:Int),(3584528711:Int),(113926993:Int),(338241895:Int),(666307205:Int),(773529912:Int),(1294757372:Int),(1396182291:Int),(1695183700:Int),(1986661051:Int),(2177026350:Int),(2456956037:Int),(2730485921:Int),(2820302411:Int),(3259730800:Int),(3345764771:Int),(3516065817:Int),(3600352804:Int),(4094571909:Int),(275423344:Int),(430227734:Int),(506948616:Int),(659060556:Int),(883997877:Int),(958139571:Int),(1322822218:Int),(1537002063:Int),(1747873779:Int),(1955562222:Int),(2024104815:Int),(2227730452:Int),(2361852424:Int),(2428436474:Int),(2756734187:Int),(3204031479:Int),(3329325298:Int)])]::_))=> ?_
  refine ldL_r (I.lump 0 0 rfl) ?_
  try simp only [nrm_v]
  replace I:=I.drop1
  exact k (#v[(1116352408:Int),(1899447441:Int),(3049323471:Int),(3921009573:Int),(961987163:Int),(1508970993:Int),(2453635748:Int),(2870763221:Int),(3624381080:Int),(310598401:Int),(607225278:Int),(1426881987:Int),(1925078388:Int),(2162078206:Int),(2614888103:Int),(3248222580:Int),(3835390401:Int),(4022224774:Int),(264347078:Int),(604807628:Int),(770255983:Int),(1249150122:Int),(1555081692:Int),(1996064986:Int),(2554220882:Int),(2821834349:Int),(2952996808:Int),(3210313671:Int),(3336571891:Int),(3584528711:Int),(113926993:Int),(338241895:Int),(666307205:Int),(773529912:Int),(1294757372:Int),(1396182291:Int),(1695183700:Int),(1986661051:Int),(2177026350:Int),(2456956037:Int),(2730485921:Int),(2820302411:Int),(3259730800:Int),(3345764771:Int),(3516065817:Int),(3600352804:Int),(4094571909:Int),(275423344:Int),(430227734:Int),(506948616:Int),(659060556:Int),(883997877:Int),(958139571:Int),(1322822218:Int),(1537002063:Int),(1747873779:Int),(1955562222:Int),(2024104815:Int),(2227730452:Int),(2361852424:Int),(2428436474:Int),(2756734187:Int),(3204031479:Int),(3329325298:Int)]) _ I H
end Go.Pt
