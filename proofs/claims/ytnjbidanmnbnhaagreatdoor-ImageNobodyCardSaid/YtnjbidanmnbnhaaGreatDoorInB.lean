import Derived.Test.YtnjbidanmnbnhaaGreatDoorInA
import Derived.MapKept
set_option linter.unusedVariables false
set_option linter.unusedSimpArgs false
set_option maxHeartbeats 4000000
set_option maxRecDepth 100000
namespace Go.Pu
open Go Go.Wc
structure Rp (X:Type) where
  n:Nat
  P:Hp→List Nat→List Value→X→Prop
  len: ∀ {h M vs x},P h M vs x→vs.length=n
  one: ∀ {h M vs x},P h M vs x→ ∀ v ∈ vs,v.oneCell'=true
  mono: ∀ {h M h' M' vs x},Le h M h' M'→P h M vs x→P h' M' vs x
variable {X:Type} {E:Rp X} {h h':Hp} {M M':List Nat} {vs ws:List Value} {l m:List X}
def Els (E:Rp X) (h:Hp) (M:List Nat):List Value→List X→Prop
  | vs,[]=>vs=[]
  | vs,x::l=> ∃ u w,vs=u++w∧E.P h M u x∧Els E h M w l
theorem Els.len: ∀ {l:List X} {vs:List Value},Els E h M vs l→vs.length=l.length*E.n
  | [], vs, H => by
    have H:vs=[]:=H
    subst H; simp
  | x :: l, vs, ⟨u, w, e, h1, h2⟩ => by
    subst e
    simp only [List.length_append,E.len h1,Els.len h2,List.length_cons,Nat.add_mul,Nat.one_mul,Nat.add_comm]
theorem Els.one: ∀ {l:List X} {vs:List Value},Els E h M vs l→ ∀ v ∈ vs,v.oneCell'=true
  | [], vs, H, v, hv => by
    have H:vs=[]:=H
    subst H; cases hv
  | x :: l, vs, ⟨u, w, e, h1, h2⟩, v, hv => by
    subst e
    exact (List.mem_append.1 hv).elim (E.one h1 v) (Els.one h2 v)
theorem Els.mono (hL:Le h M h' M'): ∀ {l:List X} {vs:List Value},Els E h M vs l→Els E h' M' vs l
  | [],_,H=>H
  | _::_,_,⟨u,w,e,h1,h2⟩=>⟨u,w,e,E.mono hL h1,Els.mono hL h2⟩
theorem Els.append: ∀ {l:List X} {vs:List Value},Els E h M vs l→Els E h M ws m→Els E h M (vs++ws) (l++m)
  | [], vs, H, H2 => by
    have H:vs=[]:=H
    subst H; exact H2
  | _::_,_,⟨u,w,e,h1,h2⟩,H2=>⟨u,w++ws,by rw [e,List.append_assoc],h1,Els.append h2 H2⟩
theorem Els.split: ∀ {l:List X} {vs:List Value},Els E h M vs (l++m)→ ∃ u w,vs=u++w∧Els E h M u l∧Els E h M w m
  | [],vs,H=>⟨[],vs,rfl,rfl,H⟩
  | _ :: _, _, ⟨u, w, e, h1, h2⟩ => by
    obtain ⟨u',w',rfl,h3,h4⟩:=Els.split h2
    exact ⟨u++u',w',by rw [e,List.append_assoc],⟨u,u',rfl,h1,h3⟩,h4⟩
theorem Els.take_drop (H:Els E h M vs l) (i:Nat) (hi:i≤l.length):Els E h M (vs.take (i*E.n)) (l.take i)∧Els E h M (vs.drop (i*E.n)) (l.drop i):=by
  rw [← List.take_append_drop i l] at H
  obtain ⟨u,w,rfl,h1,h2⟩:=Els.split H
  have hl:=h1.len
  rw [List.length_take,Nat.min_eq_left hi] at hl
  rw [← hl,List.take_left,List.drop_left]
  exact ⟨h1,h2⟩
theorem Els.sub (H:Els E h M vs l) {i j:Nat} (hij:i≤j) (hj:j≤l.length):Els E h M ((vs.take (j*E.n)).drop (i*E.n)) ((l.take j).drop i):=
  ((H.take_drop j hj).1.take_drop i (by simp; omega)).2
theorem Els.get {i:Nat} {x:X} (H:Els E h M vs l) (hx:l[i]? =some x): ∃ u,E.P h M u x∧ ∀ j,j<u.length→vs[i*E.n+j]? =u[j]? :=by
  have hi:i<l.length:=by
    rw [List.getElem?_eq_some_iff] at hx; exact hx.1
  obtain ⟨_,h2⟩:=H.take_drop i (Nat.le_of_lt hi)
  have e:l.drop i=x::l.drop (i+1):=by
    rw [List.getElem?_eq_some_iff] at hx
    obtain ⟨_,rfl⟩:=hx
    exact List.drop_eq_getElem_cons hi
  rw [e] at h2
  obtain ⟨u,w,e2,h3,_⟩:=h2
  refine ⟨u,h3,fun j hj=> ?_⟩
  rw [← List.getElem?_drop,e2,List.getElem?_append_left hj]
theorem Els.set {i:Nat} {x:X} {u:List Value} (H:Els E h M vs l) (hi:i<l.length) (hu:E.P h M u x):
    Els E h M (vs.take (i*E.n)++(u++vs.drop ((i+1)*E.n))) (l.set i x):=by
  rw [List.set_eq_take_append_cons_drop,if_pos hi]
  exact (H.take_drop i (Nat.le_of_lt hi)).1.append ⟨u,_,rfl,hu,(H.take_drop (i+1) hi).2⟩
theorem Els.repl {z:List Value} {x:X} (hz:E.P h M z x): ∀ n,Els E h M (List.replicate n z).flatten (List.replicate n x)
  | 0=>rfl
  | n+1=>⟨z,_,by simp [List.replicate_succ],hz,Els.repl hz n⟩
theorem Els.one1 {x:X} (H:E.P h M vs x):Els E h M vs [x]:=⟨vs,[],by simp,H,rfl⟩
@[reducible] def rI (k:IntKind):Rp Int:=⟨1,fun _ _ vs x=>vs=[.int k x],by rintro _ _ _ _ rfl; rfl,by rintro _ _ _ _ rfl; simp [Value.oneCell'],fun _ h=>h⟩
@[reducible] def rB:Rp Bool:=⟨1,fun _ _ vs x=>vs=[.bool x],by rintro _ _ _ _ rfl; rfl,by rintro _ _ _ _ rfl; simp [Value.oneCell'],fun _ h=>h⟩
@[reducible] def rT:Rp ByteArray:=⟨1,fun _ _ vs x=>vs=[.string x],by rintro _ _ _ _ rfl; rfl,by rintro _ _ _ _ rfl; simp [Value.oneCell'],fun _ h=>h⟩
@[reducible] def rP:Rp (Option Addr):=⟨1,fun _ _ vs x=>vs=[.pointer x],by rintro _ _ _ _ rfl; rfl,by rintro _ _ _ _ rfl; simp [Value.oneCell'],fun _ h=>h⟩
@[reducible] def rV (k:IntKind) (n:Nat):Rp (Vector Int n):=⟨n,fun _ _ vs x=>vs=lumpV k n x.toList,by rintro _ _ _ _ rfl; exact lumpV_length _ _ _,by
  rintro _ _ _ x rfl v hv
  simp only [lumpV,List.mem_map] at hv
  obtain ⟨y,_,rfl⟩:=hv
  rfl,fun _ h=>h⟩
theorem els_I {k:IntKind}: ∀ {l:List Int} {vs:List Value},Els (rI k) h M vs l↔vs=l.map (Value.int k)
  | [],vs=>Iff.rfl
  | x :: l, vs => by
    constructor
    · rintro ⟨u, w, rfl, rfl, h2⟩
      rw [els_I.1 h2]; rfl
    · rintro rfl
      exact ⟨[_],_,rfl,rfl,els_I.2 rfl⟩
def SlE (E:Rp X) (h:Hp) (M:List Nat) (a:Option Addr) (c:Nat) (l:List X):Prop:=
  ∃ vs,SlV h ⟨a,l.length,c⟩ E.n vs∧l.length≤c∧(vs ≠ []→ ∀ x,a=some x→x.block ∉ M)∧Els E h M vs l
theorem slv_nil {a:Option Addr} {c n:Nat} (m:Nat) (hn:n*m=0):SlV h ⟨a,n,c⟩ m []:=by
  refine ⟨by simp [hn], ?_⟩
  cases a with
  | none=>rfl
  | some a=>exact ⟨fun h=>absurd rfl h,fun i hi=>by simp at hi⟩
theorem slv_le {s:Sl} {n:Nat} (hL:Le h M h' M') (H:SlV h s n vs) (hd:vs ≠ []→ ∀ x,s.a=some x→x.block ∉ M):SlV h' s n vs:=by
  cases vs with
  | nil=>obtain ⟨a,l,c⟩:=s; exact slv_nil n (by have:=H.1; simpa using this.symm)
  | cons v w=>exact H.keep hL.1 (hd (by simp))
theorem SlE.mono {a:Option Addr} {c:Nat} (hL:Le h M h' M'):SlE E h M a c l→SlE E h' M' a c l:=by
  rintro ⟨vs,h1,h2,h3,h4⟩
  refine ⟨vs,slv_le hL h1 h3,h2,fun hne x hx e=> ?_,h4.mono hL⟩
  rcases hL.2 _ e with h5 | h5
  · exact h3 hne x hx h5
  · obtain ⟨g1, g2⟩ := h1
    subst hx
    have hp:0<vs.length:=by
      cases vs with
      | nil=>exact absurd rfl hne
      | cons a b=>simp
    have:=hcell_lt (g2.2 0 hp)
    simp at this; omega
@[reducible] def rS (E:Rp X):Rp (List X):=
  ⟨1,fun h M vs l=> ∃ (a:Option Addr) (c:Nat),vs=[.slice a l.length c]∧SlE E h M a c l,by rintro _ _ _ _ ⟨a,c,rfl,_⟩; rfl,by rintro _ _ _ _ ⟨a,c,rfl,_⟩; simp [Value.oneCell'],
    fun hL ⟨a,c,e,h⟩=>⟨a,c,e,h.mono hL⟩⟩
def roS (E:Rp X) (a:Option Addr) (n c:Nat) (l:List X):At:=
  ⟨fun h F M=>F=[]∧n=l.length∧SlE E h M a c l,fun _ hL ⟨e,en,h⟩=>⟨e,en,h.mono hL⟩,fun ⟨e,_⟩ b hb=>by subst e; cases hb⟩
def repA (E:Rp X) (vs:List Value) (x:X):At:=
  ⟨fun h F M=>F=[]∧E.P h M vs x,fun _ hL ⟨e,h⟩=>⟨e,E.mono hL h⟩,fun ⟨e,_⟩ b hb=>by subst e; cases hb⟩
theorem own_agree {s:Sl} {T n:Nat} {F:List Nat} (H:Own h s T n vs F) (hk: ∀ b ∈ F,h'[b]? =h[b]?):Own h' s T n vs F:=by
  obtain ⟨h1,h2,h3⟩:=H
  refine ⟨h1,h2, ?_⟩
  cases ha:s.a with
  | none=>rw [ha] at h3; exact h3
  | some a =>
    rw [ha] at h3
    obtain ⟨hf,hs,pre,post,z,hb,h4⟩:=h3
    exact ⟨hf,hs,pre,post,z,by rw [hk a.block (by rw [hf]; simp),hb],h4⟩
def ownS (E:Rp X) (a:Option Addr) (n c:Nat) (l:List X):At:=
  ⟨fun h F M=>n=l.length∧ ∃ (T:Nat) (vs:List Value),Own h ⟨a,l.length,c⟩ T E.n vs F∧Els E h M vs l,fun hk hL ⟨en,T,vs,h1,h2⟩=>⟨en,T,vs,own_agree h1 hk,h2.mono hL⟩,fun ⟨_,_,_,h,_⟩=>h.lt⟩
inductive Seg where
  | one (v:Value)
  | vec (k:IntKind) (n:Nat) (v:Vector Int n)
@[reducible] def Seg.size:Seg→Nat
  | .one _=>1
  | .vec _ n _=>n
def Seg.cells:Seg→List Value
  | .one v=>[v]
  | .vec k n v=>lumpV k n v.toList
def segs:List Seg→List Value
  | []=>[]
  | s::r=>s.cells++segs r
def segAt:List Seg→Nat→Nat→Option (Nat × Seg)
  | [],_,_=>none
  | s::_,0,off=>some (off,s)
  | s::r,i+1,off=>segAt r i (off+s.size)
def segSize:List Seg→Nat
  | []=>0
  | s::r=>s.size+segSize r
theorem Seg.cells_length (s:Seg):s.cells.length=s.size:=by
  cases s with
  | one v=>rfl
  | vec k n v=>simp [Seg.cells,lumpV_length]
theorem segs_length: ∀ ss:List Seg,(segs ss).length=segSize ss
  | []=>rfl
  | s::r=>by simp only [segs,segSize,List.length_append,s.cells_length,segs_length r]
theorem segs_append: ∀ (l r:List Seg),segs (l++r)=segs l++segs r
  | [],_=>rfl
  | s::l,r=>by simp only [List.cons_append,segs,segs_append l r,List.append_assoc]
theorem segAt_split: ∀ {ss:List Seg} {i acc off:Nat} {s:Seg},segAt ss i acc=some (off,s)→ss=ss.take i++s::ss.drop (i+1)∧off=acc+segSize (ss.take i)
  | [],_,_,_,_,h=>by simp [segAt] at h
  | s::r,0,acc,off,t,h=>by simp [segAt] at h; obtain ⟨rfl,rfl⟩:=h; simp [segSize]
  | s :: r, i + 1, acc, off, t, h => by
    simp only [segAt] at h
    obtain ⟨h1,h2⟩:=segAt_split h
    refine ⟨by simp only [List.take_succ_cons,List.drop_succ_cons,List.cons_append]; rw [← h1],by simp only [List.take_succ_cons,segSize]; omega⟩
theorem nrm_v {n:Nat} (v:Vector Int n):nrm n v.toList=v.toList:=nrm_eq (by simp)
theorem lumpV_v (k:IntKind) {n:Nat} (v:Vector Int n):lumpV k n v.toList=v.toList.map (Value.int k):=by rw [lumpV,nrm_v]
def blk (p : Addr) (T : Nat) (ss : List Seg) : At :=
  ⟨fun h F _=>F=[p.block]∧p.off=0∧p.spot=none∧h[p.block]? =some (.cells (segs ss).toArray T (0,0)),
    fun hk _ ⟨e,e1,e2,h⟩=>⟨e,e1,e2,by rw [hk p.block (by simp [e]),h]⟩,fun ⟨e,_,_,h⟩ b hb=>by
      subst e; simp at hb; subst hb; exact lt_of_get h⟩
def Rd (E:Rp X) (a:At) (p:Option Addr) (n c:Nat) (l:List X):Prop:=
  ∀ {h F M},a.P h F M→n=l.length∧ ∃ vs,SlV h ⟨p,l.length,c⟩ E.n vs∧l.length≤c∧Els E h M vs l
theorem rd_ro {a:Option Addr} {n c:Nat}:Rd E (roS E a n c l) a n c l:=fun ⟨_,en,vs,h1,h2,_,h3⟩=>⟨en,vs,h1,h2,h3⟩
theorem rd_own {a:Option Addr} {n c:Nat}:Rd E (ownS E a n c l) a n c l:=fun ⟨en,_,vs,h1,h2⟩=>⟨en,vs,h1.slv,h1.2.1,h2⟩
theorem rd_len {a':At} {p:Option Addr} {n c:Nat} {h:Hp} {A:List At} (hX:Rd E a' p n c l) (I:Inv h (a'::A)):n=l.length:=by
  obtain ⟨F,M,hP⟩:=I.get
  exact (hX hP).1
theorem own_len {a:Option Addr} {n c:Nat} {h:Hp} {A:List At} (I:Inv h (ownS E a n c l::A)):n=l.length:=rd_len rd_own I
theorem ro_len {a:Option Addr} {n c:Nat} {h:Hp} {A:List At} (I:Inv h (roS E a n c l::A)):n=l.length:=rd_len rd_ro I
variable {A:List At} {a:Option Addr} {c:Nat}
theorem br_r {b:Bool} {X Y X' Y':Prop} (H:br b X' Y') (h1:b=true→X'→X) (h2:b=false→Y'→Y):br b X Y:=by
  cases b with
  | true=>exact h1 rfl H
  | false=>exact h2 rfl H
theorem and_r {φ X X':Prop} (H:φ∧X') (h1:X'→X):φ∧X:=⟨H.1,h1 H.2⟩
theorem nil_r {p:Option Addr} {K K':Addr→Prop} (H:nilW p K') (k: ∀ x,p=some x→K' x→K x):nilW p K:=by
  cases p with
  | none=>exact H
  | some x=>exact k x rfl H
theorem nil_e {p:Option Addr} {x:Addr} {K:Addr→Prop} (e:p=some x) (k:K x):nilW p K:=by subst e; exact k
theorem al_r {T:Nat} {vs:List Value} {K:Addr→Hp→Prop} (ss:List Seg) (hs:vs=segs ss) (I:Inv h A) (k: ∀ p h',Inv h' (blk p T ss::A)→K p h'):alW h T vs K:=by
  subst hs
  refine k _ _ ?_
  obtain ⟨F,M,hF,_,_,_,H⟩:=I.emp_add.turn
  have hF:F=[]:=hF
  subst hF
  exact H _ [_] [[h.size]] (Keep.push _ _ _) (fun b hb=> .inr (by simp at hb; omega)) (by simp) fun M' _ _ _=>⟨⟨rfl,rfl,rfl,push_get _ _⟩,trivial⟩
theorem add_eq {p:Addr} (h0:p.off=0) (h1:p.spot=none) (i:Nat):p.add i=⟨p.block,i,none⟩:=by
  obtain ⟨b,o,s⟩:=p
  simp only at h0 h1
  subst h0 h1
  rw [add_mk,Nat.zero_add]
theorem Inv.cell {p:Addr} {T:Nat} {ss:List Seg} (I:Inv h (blk p T ss::A)) (i off:Nat) {v:Value} (hv:segAt ss i 0=some (off, .one v)):hcell h (p.add off)=some v:=by
  obtain ⟨F,M,_,h0,h1,hb⟩:=I.get
  obtain ⟨e1,e2⟩:=segAt_split hv
  rw [add_eq h0 h1,hcell_of hb,e1,segs_append,e2,Nat.zero_add]
  simp only [segs,Seg.cells,List.getElem?_toArray]
  rw [List.getElem?_append_right (by rw [segs_length]; exact Nat.le_refl _),segs_length,Nat.sub_self]
  rfl
theorem Inv.lump {p:Addr} {T n:Nat} {k:IntKind} {ss:List Seg} (I:Inv h (blk p T ss::A)) (i off:Nat) {v:Vector Int n} (hv:segAt ss i 0=some (off, .vec k n v)):lfact k n v.toList (p.add off) h:=by
  obtain ⟨F,M,_,h0,h1,hb⟩:=I.get
  obtain ⟨e1,e2⟩:=segAt_split hv
  intro j hj
  rw [add_add,add_eq h0 h1,hcell_of hb,e1,segs_append,e2,Nat.zero_add]
  simp only [segs,Seg.cells,List.getElem?_toArray]
  rw [List.getElem?_append_right (by rw [segs_length]; omega),segs_length,Nat.add_sub_cancel_left,List.getElem?_append_left (by rw [lumpV_length]; exact hj),lump_get k n _ j hj]
theorem lt_r {i n:Nat} (h:Nat.blt i n=true):i<n:=by simpa using h
theorem le_r {i n:Nat} (h:Nat.ble i n=true):i≤n:=by simpa using h
theorem ldI_r {k:IntKind} {p:Addr} {n:Int} {K:Int→Prop} (hc:hcell h p=some (.int k n)) (H:K n):ldI k h p K:=⟨n,hc,H⟩
theorem ldB_r {p:Addr} {n:Bool} {K:Bool→Prop} (hc:hcell h p=some (.bool n)) (H:K n):ldB h p K:=⟨n,hc,H⟩
theorem ldT_r {p:Addr} {n:ByteArray} {K:ByteArray→Prop} (hc:hcell h p=some (.string n)) (H:K n):ldT h p K:=⟨n,hc,H⟩
theorem ldP_r {p:Addr} {n:Option Addr} {K:Option Addr→Prop} (hc:hcell h p=some (.pointer n)) (H:K n):ldP h p K:=⟨n,hc,H⟩
theorem ldM_r {p:Addr} {n:Option Nat} {K:Option Nat→Prop} (hc:hcell h p=some (.map n)) (H:K n):ldM h p K:=⟨n,hc,H⟩
theorem ldS_r {p:Addr} {a:Option Addr} {n c:Nat} {K:Sl→Prop} (hc:hcell h p=some (.slice a n c)) (H:K ⟨a,n,c⟩):ldS h p K:=⟨⟨a,n,c⟩,hc,H⟩
theorem ldV_r {p:Addr} {v:Value} {K:Value→Prop} (hc:hcell h p=some v) (H:K v):ldV h p K:=⟨v,hc,H⟩
theorem ldL_r {k:IntKind} {n:Nat} {p:Addr} {v:Vector Int n} {K:List Int→Prop} (hc:lfact k n v.toList p h) (H:K v.toList):ldL k n h p K:=⟨v.toList,by simp,hc,H⟩
theorem stA_r {p:Addr} {T:Nat} {ss:List Seg} {vs:List Value} {K:Hp→Prop} (I:Inv h (blk p T ss::A)) (i m off:Nat) (ws:List Seg) (hw:vs=segs ws) (hi:segSize (ss.take i)=off) (hm:segSize ((ss.drop i).take m)=segSize ws)
    (ho: ∀ v ∈ segs ws,v.oneCell'=true) (k: ∀ h',Inv h' (blk p T (ss.take i++(ws++(ss.drop i).drop m))::A)→K h'):stAll h (p.add off) 0 vs K:=by
  subst hw
  obtain ⟨F,M,⟨hF,h0,h1,hb⟩,hFM,hn,hlt,H⟩:=I.turn
  rw [add_eq h0 h1]
  have e:segs ss=segs (ss.take i)++segs ((ss.drop i).take m)++segs ((ss.drop i).drop m):=by
    rw [List.append_assoc,← segs_append,← segs_append,List.take_append_drop,List.take_append_drop]
  refine stAll_mid (T:=T) (z:=(0,0)) (segs ws) (segs ((ss.drop i).take m)) h (segs (ss.take i)) (segs ((ss.drop i).drop m)) 0 (by rw [hb,← e]) (by simp only [segs_length,hm]) (by rw [segs_length]; omega) (.inl (Nat.zero_le _)) ho fun h' hb' k' hs'=> ?_
  refine k h' (H h' [_] [[p.block]] (by rw [hF]; exact k') (fun b hb=> .inl (by rw [hF]; simpa using hb)) (by simp) fun M' _ _ _=>⟨⟨rfl,h0,h1, ?_⟩,trivial⟩)
  rw [hb',segs_append,segs_append,List.append_assoc]
theorem st_r {p:Addr} {T:Nat} {ss:List Seg} {u v:Value} {K:Hp→Prop} (I:Inv h (blk p T ss::A)) (i off:Nat) (hu:segAt ss i 0=some (off, .one u)) (k: ∀ h',Inv h' (blk p T (ss.set i (.one v))::A)→K h'):
    st h (p.add off) v K:=by
  obtain ⟨F,M,⟨hF,h0,h1,hb⟩,hFM,hn,hlt,H⟩:=I.turn
  obtain ⟨e1,e2⟩:=segAt_split hu
  rw [add_eq h0 h1]
  have hil:i<ss.length:=by
    have:=congrArg List.length e1
    simp at this; omega
  refine st_mid (T:=T) (z:=(0,0)) (pre:=segs (ss.take i)) (post:=segs (ss.drop (i+1))) (u:=u) ?_ (by rw [segs_length]; omega) (.inr (Nat.zero_le _)) fun h' hb' k' hs'=> ?_
  · rw [hb]; conv => lhs; rw [e1, segs_append]
    rfl
  · refine k h' (H h' [_] [[p.block]] (by rw [hF]; exact k') (fun b hb => .inl (by rw [hF]; simpa using hb)) (by simp) fun M' _ _ _ => ⟨⟨rfl, h0, h1, ?_⟩, trivial⟩)
    rw [hb',List.set_eq_take_append_cons_drop,if_pos hil,segs_append]
    rfl
theorem Inv.lit {p:Addr} {T n:Nat} {ss:List Seg} (I:Inv h (blk p T ss::A)) (hn:n=l.length) (H: ∀ M,Els E h M (segs ss) l):Inv h (ownS E (some p) n n l::A):=by
  subst hn
  refine I.conv fun F M ⟨hF,h0,h1,hb⟩=>⟨rfl,T,segs ss,⟨(H M).len,Nat.le_refl _, ?_⟩,H M⟩
  refine ⟨hF,h1,[],[],(0,0),by simpa using hb,by simp [h0], ?_, .inl (Nat.zero_le _)⟩
  rw [(H M).len]; simp
theorem Inv.lit0 {p:Addr} {T:Nat} (E:Rp X) (I:Inv h (blk p T []::A)):Inv h (ownS E (some p) 0 0 []::A):=I.lit (l:=[]) rfl fun _=>rfl
def litA (E:Rp X) (vs:List Value) (l:List X):At:=
  ⟨fun h F M=>F=[]∧Els E h M vs l,fun _ hL ⟨e,h⟩=>⟨e,h.mono hL⟩,fun ⟨e,_⟩ b hb=>by subst e; cases hb⟩
theorem Inv.litN (E:Rp X) (I:Inv h A):Inv h (litA E [] []::A):=I.addP fun M _=>⟨rfl,rfl⟩
theorem Inv.litC {vs ws:List Value} {x:X} (I:Inv h (repA E vs x::litA E ws l::A)):Inv h (litA E (vs++ws) (x::l)::A):=
  I.sepI.conv fun F M ⟨F1,F2,e,⟨e1,h1⟩,e2,h2⟩=>⟨by rw [e,e1,e2]; rfl,vs,ws,rfl,h1,h2⟩
theorem Inv.litL {p:Addr} {T n:Nat} {ss:List Seg} {vs:List Value} (I:Inv h (litA E vs l::blk p T ss::A)) (hv:vs=segs ss) (hn:n=l.length):Inv h (ownS E (some p) n n l::A):=by
  subst hv hn
  refine I.sepI.conv fun F M ⟨F1,F2,e,⟨e1,h2⟩,hF,h0,h1,hb⟩=>⟨rfl,T,segs ss,⟨h2.len,Nat.le_refl _, ?_⟩,h2⟩
  subst e1
  refine ⟨by rw [e]; exact hF,h1,[],[],(0,0),by simpa using hb,by simp [h0], ?_, .inl (Nat.zero_le _)⟩
  simp only
  rw [h2.len]; simp
theorem Inv.freeze {n:Nat} (I:Inv h (ownS E a n c l::A)):Inv h (roS E a n c l::A):=by
  obtain ⟨F,M,⟨en,T,vs,h1,h2⟩,hFM,hn,hlt,H⟩:=I.turn
  refine H h [_] [[]] (Keep.refl _ _) (by simp) (by simp) fun M' hL hM' _=>⟨⟨rfl,en,vs,h1.slv,h1.2.1,fun _ x hx hm=> ?_,h2.mono hL⟩,trivial⟩
  have:=hM' _ hm
  simp only [List.flatten_cons,List.flatten_nil,List.append_nil,List.not_mem_nil,false_or] at this
  exact this.2 (by rw [h1.sa x hx]; simp)
theorem Inv.nilO (E:Rp X) (I:Inv h A):Inv h (ownS E none 0 0 []::A):=I.addP fun M _=>⟨rfl,0,[],Own.nil _ _ _,rfl⟩
theorem Inv.nilR (E:Rp X) (I:Inv h A):Inv h (roS E none 0 0 []::A):=I.addP fun M _=>⟨rfl,rfl,[],SlV.nil _ _,Nat.le_refl _,fun h=>absurd rfl h,rfl⟩
theorem Inv.dupR {n:Nat} (I:Inv h (roS E a n c l::A)):Inv h (roS E a n c l::roS E a n c l::A):=I.dup fun _ _ h=>h.1
def ixP (l:List X) (i:Int) (K:X→Prop):Prop:=0≤i∧ ∃ x,l[i.toNat]? =some x∧K x
theorem ixP_lt {i:Int} {K:X→Prop} (H:ixP l i K):0≤i∧i<l.length:=by
  obtain ⟨h0,x,hx,_⟩:=H
  rw [List.getElem?_eq_some_iff] at hx
  obtain ⟨h1,_⟩:=hx
  exact ⟨h0,by omega⟩
theorem ixP_mono {i:Int} {K K':X→Prop} (H:ixP l i K) (k: ∀ x,K x→K' x):ixP l i K':=⟨H.1,H.2.imp fun x hx=>⟨hx.1,k x hx.2⟩⟩
def EAdr (a:Option Addr) (n:Nat) (i:Int) (p:Addr):Prop:= ∃ x,a=some x∧p=x.add (i.toNat*n)
theorem slv_cell {s:Sl} {n i j:Nat} {x:Addr} (H:SlV h s n vs) (hx:s.a=some x) {v:Value} (hv:vs[i*n+j]? =some v):hcell h ((x.add (i*n)).add j)=some v:=by
  obtain ⟨h1,h2⟩:=H
  rw [hx] at h2
  rw [List.getElem?_eq_some_iff] at hv
  obtain ⟨hlt,hv⟩:=hv
  obtain ⟨b,o,sp⟩:=x
  obtain rfl:sp=none:=h2.1 (by rintro rfl; simp at hlt)
  rw [add_mk,add_mk,Nat.add_assoc,h2.2 _ hlt,hv]
theorem ix_r {a':At} {n:Nat} {i:Int} {K':X→Prop} {K:Addr→Prop} (hX:Rd E a' a n c l) (I:Inv h (a'::A)) (hn:E.n ≠ 0) (H:ixP l i K')
    (k: ∀ p vs x,EAdr a E.n i p→l[i.toNat]? =some x→(∀ j v,vs[j]? =some v→hcell h (p.add j)=some v)→Inv h (repA E vs x::a'::A)→K' x→K p):ixW a n i E.n K:=by
  obtain rfl:=rd_len hX I
  have hb:=ixP_lt H
  obtain ⟨h0,x,hx,hK⟩:=H
  obtain ⟨F,M,hP,hFM,hnd,hlt,HH⟩:=I.turn
  obtain ⟨_,vs,h1,h2,h3⟩:=hX hP
  obtain ⟨u,hu,hcells⟩:=h3.get hx
  obtain ⟨y,rfl⟩: ∃ y,a=some y:=by
    cases a with
    | some y=>exact ⟨y,rfl⟩
    | none =>
      have:=h1.2
      simp only at this
      subst this
      have hl:0=l.length*E.n:=h1.1
      rcases Nat.mul_eq_zero.1 hl.symm with e | e
      · omega
      · exact absurd e hn
  refine ⟨y,rfl,hb,k _ u x ⟨y,rfl,rfl⟩ hx (fun j v hv=> ?_) ?_ hK⟩
  · have hj : j < u.length := by rw [List.getElem?_eq_some_iff] at hv; exact hv.1
    exact slv_cell h1 rfl (by rw [hcells j hj]; exact hv)
  · exact HH h [repA E u x,a'] [[],F] (Keep.refl _ _) (fun b hb=> .inl (by simpa using hb)) (by simpa using hnd) fun M' hL _ _=>⟨⟨rfl,E.mono hL hu⟩,a'.mono (fun _ _=>rfl) hL hP,trivial⟩
theorem Inv.repS {vs:List Value} {x:List X} (I:Inv h (repA (rS E) vs x::A)): ∃ a c,vs=[.slice a x.length c]∧Inv h (roS E a x.length c x::A):=by
  obtain ⟨F,M,⟨hF,a,c,e,hs⟩,hFM,hn,hlt,H⟩:=I.turn
  refine ⟨a,c,e,H h [roS E a x.length c x] [[]] (Keep.refl _ _) (by simp) (by simp) fun M' hL _ _=>⟨⟨rfl,rfl,hs.mono hL⟩,trivial⟩⟩
end Go.Pu
namespace Go.Pu
open Go Go.Wc
variable {X:Type} {E:Rp X} {h h':Hp} {M M':List Nat} {vs ws:List Value} {l m:List X} {A:List At} {a a2:Option Addr} {c c2 T:Nat} {a':At}
abbrev Bnd (n:Nat):Prop:=n≤4294967296
theorem flat1 (F:List Nat):[F].flatten=F:=by simp
theorem flat2 (F G:List Nat):[F,G].flatten=F++G:=by simp
theorem stE_r {n : Nat} {i : Int} {x : X} {p : Addr} {K : Hp → Prop} (I : Inv h (repA E ws x :: ownS E a n c l :: A)) (e : EAdr a E.n i p) (hi : 0 ≤ i ∧ i < l.length)
    (k: ∀ h',Inv h' (ownS E a n c (l.set i.toNat x)::A)→K h'):stAll h p 0 ws K:=by
  obtain ⟨F,M,⟨F1,F2,eF,⟨e1,hw⟩,en,T,vs,h1,h2⟩,hFM,hn,hlt,H⟩:=I.sepI.turn
  subst e1
  obtain ⟨y,rfl,rfl⟩:=e
  obtain ⟨g1,g2,g3⟩:=h1
  obtain ⟨b,o,sp⟩:=y
  obtain ⟨hf,hs,pre,post,z,hb,hp,hl,hz⟩:=g3
  simp only at hs hb hp hf hz g1 hl; subst hs
  have hin:i.toNat<l.length:=by omega
  have hm:(i.toNat+1)*E.n≤l.length*E.n:=Nat.mul_le_mul_right _ hin
  have hm1:(i.toNat+1)*E.n=i.toNat*E.n+E.n:=by rw [Nat.add_mul,Nat.one_mul]
  have hwl:=E.len hw
  have hcap:l.length*E.n≤c*E.n:=Nat.mul_le_mul_right _ g2
  rw [add_mk]
  refine stAll_mid (T:=T) (z:=z) ws ((vs.drop (i.toNat*E.n)).take E.n) h (pre++vs.take (i.toNat*E.n)) (vs.drop ((i.toNat+1)*E.n)++post) 0 ?_ (by simp; omega) (by simp; omega) (by omega) (E.one hw) fun h' hb' k' hs'=> ?_
  · rw [hb]
    congr 2
    simp only [List.append_assoc]
    rw [hm1,← List.drop_drop]
    conv=>lhs; rw [← List.take_append_drop (i.toNat*E.n) vs,← List.take_append_drop E.n (vs.drop (i.toNat*E.n))]
    simp only [List.append_assoc]
  · have hF : F = [b] := by rw [eF, hf]; rfl
    refine k h' (H h' [_] [[b]] (by rw [hF]; exact k') (fun b hb=> .inl (by rw [hF]; simpa using hb)) (by simp) fun M' hL _ _=>⟨⟨by rw [List.length_set]; exact en,T,_,⟨?_, ?_, ?_⟩,(h2.mono hL).set hin (E.mono hL hw)⟩,trivial⟩)
    · have := ((h2.mono hL).set hin (E.mono hL hw)).len
      exact this
    · simpa using g2
    · refine ⟨rfl, rfl, pre, post, z, ?_, hp, ?_, hz⟩
      · rw [hb']; simp only [List.append_assoc]
      · simp only [List.length_append, List.length_take, List.length_drop, hwl]
        omega
theorem st1_r {n:Nat} {i:Int} {x:X} {p:Addr} {v:Value} {K:Hp→Prop} (I:Inv h (repA E [v] x::ownS E a n c l::A)) (e:EAdr a E.n i p) (hi:0≤i∧i<l.length)
    (k: ∀ h',Inv h' (ownS E a n c (l.set i.toNat x)::A)→K h'):st h (p.add 0) v K:=by
  have:=stE_r I e hi k
  simp only [stAll,stV] at this
  split at this
  · exact this.elim
  · exact this.elim
  · exact this
theorem Inv.rep {x:X} (I:Inv h A) (H: ∀ h M,E.P h M vs x):Inv h (repA E vs x::A):=I.addP fun M _=>⟨rfl,H h M⟩
theorem Inv.repI {k:IntKind} (I:Inv h A) (n:Int):Inv h (repA (rI k) [.int k n] n::A):=I.rep fun _ _=>rfl
theorem Inv.repB (I:Inv h A) (n:Bool):Inv h (repA rB [.bool n] n::A):=I.rep fun _ _=>rfl
theorem Inv.repT (I:Inv h A) (n:ByteArray):Inv h (repA rT [.string n] n::A):=I.rep fun _ _=>rfl
theorem Inv.repP (I:Inv h A) (n:Option Addr):Inv h (repA rP [.pointer n] n::A):=I.rep fun _ _=>rfl
theorem Inv.repSl {n:Nat} (I:Inv h (roS E a n c l::A)):Inv h (repA (rS E) [.slice a n c] l::A):=I.conv fun _ _ ⟨e,en,h⟩=>⟨e,a,c,by rw [en],h⟩
theorem ap_bound {n b:Nat} (hl:Bnd n) (hb:b≤30000):(2*n+192)*b≤2 ^ 48:=by
  have:(2*n+192)*b≤(2*4294967296+192)*30000:=Nat.mul_le_mul (by unfold Bnd at hl; omega) hb
  have e:(2:Nat) ^ 48=281474976710656:=by decide
  omega
theorem apV_own' {T' m bytes:Nat} {z:Value} {s:Sl} {n:Nat} {vs ws:List Value} {F:List Nat} {Q:Sl→Hp→Prop} (hO:Own h s T' m vs F) (hw:ws.length=n*m)
    (h1: ∀ v ∈ ws,v.oneCell'=true) (hz:z.cells.size=m) (hb:bytes ≠ 0) (hbd:(2*(s.len+n)+192)*bytes≤2 ^ 48)
    (k: ∀ s' h' F' T2,Own h' s' T2 m (vs++ws) F'→s'.len=s.len+n→Keep F h h'→(∀ b ∈ F',b ∈ F∨h.size≤b)→Q s' h'):apV T m bytes z h s n ws Q:=by
  have key:=apV_own (T:=T') (Q:=Q) hO hw h1 hz hb hbd fun s' h' F' hO' hl hk hF _=>k s' h' F' T' hO' hl hk hF
  unfold apV at key ⊢
  by_cases hc:s.len+n≤s.cap
  · rw [if_pos hc] at key ⊢; exact key
  · rw [if_neg hc]
    refine ⟨hb, ?_,vs,hO.slv.cellsAt,fun c hcge=> ?_⟩
    · exact Nat.le_trans (Nat.mul_le_mul_right _ (nextcap _ _ (by omega))) hbd
    · have o1 := hO.1
      have hlen:(zeros z (c - (s.len+n))).length=c*m - (s.len+n)*m:=by rw [zeros_len,hz,Nat.sub_mul]
      have hmul:(s.len+n)*m≤c*m:=Nat.mul_le_mul_right _ hcge
      refine k _ _ [h.size] T ⟨by simp [o1,hw,Nat.add_mul],hcge,rfl,rfl,[],zeros z (c - (s.len+n)),(0,0),by simp,rfl, ?_, .inl (Nat.le_refl _)⟩ rfl (Keep.push _ _ _) (fun b hb=> .inr (by simp at hb; omega))
      simp only [List.length_append,hlen]
      rw [Nat.add_mul] at hmul ⊢
      omega
theorem apV_r {bytes nl:Nat} {z:Value} {K:Sl→Hp→Prop} {n:Nat} (I:Inv h (ownS E a nl c l::a'::A)) (hn:n=m.length) (hm: ∀ {F M},a'.P h F M→Els E h M ws m) (hz:z.cells.size=E.n) (hb:bytes ≠ 0) (hbb:bytes≤30000) (hl:Bnd (l.length+m.length))
    (k: ∀ a1 c1 h',Inv h' (ownS E a1 (l++m).length c1 (l++m)::a'::A)→K ⟨a1,(l++m).length,c1⟩ h'):apV T E.n bytes z h ⟨a,nl,c⟩ n ws K:=by
  subst hn
  obtain rfl:=own_len I
  obtain ⟨F,M,⟨F1,F2,eF,⟨_,T',vs,h1,h2⟩,h3⟩,hFM,hnd,hlt,H⟩:=I.sepI.turn
  subst eF
  have hels:=hm h3
  refine apV_own' h1 (by rw [hels.len]) hels.one hz hb (ap_bound hl hbb) fun s' h' F' T2 hO hl' hk hF'=> ?_
  obtain ⟨a1,n1,c1⟩:=s'
  have hl':n1=l.length+m.length:=hl'
  rw [← List.length_append] at hl'
  subst hl'
  obtain ⟨d1,d2,d3⟩:=List.nodup_append.1 hnd
  have hF2:=a'.lt h3
  have nd':F'.Nodup:=by
    cases a1 with
    | none=>obtain ⟨_,e⟩:=hO.2.2; rw [e]; simp
    | some x=>obtain ⟨e,_⟩:=hO.2.2; rw [e]; simp
  have hd': ∀ x ∈ F',∀ y ∈ F2,x ≠ y:=fun x hx y hy e=>by
    subst e
    rcases hF' x hx with h5 | h5
    · exact d3 x h5 x hy rfl
    · have:=hF2 x hy; omega
  refine k a1 c1 h' (H h' [_,a'] [F',F2] (hk.mono fun b hb=> .inl (by simp [hb])) (fun b hb=> ?_) ?_ fun M' hL _ _=>⟨⟨rfl,T2,_,hO,(h2.mono hL).append (hels.mono hL)⟩,a'.mono (fun b hb=>hk.2 b (hF2 b hb) fun e=>d3 b e b hb rfl) hL h3,trivial⟩)
  · rw [flat2] at hb
    rcases List.mem_append.1 hb with hb | hb
    · exact (hF' b hb).imp (fun h=>by simp [h]) id
    · exact .inl (by simp [hb])
  · rw [flat2, List.nodup_append]
    exact ⟨nd',d2,hd'⟩
theorem ap_r {bytes nl nm:Nat} {z:Value} {K:Sl→Hp→Prop} (hX:Rd E a' a2 nm c2 m) (I:Inv h (ownS E a nl c l::a'::A)) (hz:z.cells.size=E.n) (hb:bytes ≠ 0) (hbb:bytes≤30000) (hl:Bnd (l.length+m.length))
    (k: ∀ a1 c1 h',Inv h' (ownS E a1 (l++m).length c1 (l++m)::a'::A)→K ⟨a1,(l++m).length,c1⟩ h'):apW T E.n bytes z h ⟨a,nl,c⟩ ⟨a2,nm,c2⟩ K:=by
  obtain rfl:=rd_len hX I.swap
  obtain ⟨F,M,h3⟩:=(I.swap).get
  obtain ⟨_,ws,g1,g2,g3⟩:=hX h3
  refine ⟨ws,g1.cellsAt,apV_r I rfl (fun {F M} h3=> ?_) hz hb hbb hl k⟩
  obtain ⟨_,ws',g1',g2',g3'⟩:=hX h3
  have:=cellsAt_unique g1.cellsAt g1'.cellsAt
  exact this ▸ g3'
def bts (s:ByteArray):List Int:=s.data.toList.map fun b=>(b.toNat:Int)
@[simp] theorem bts_length (s:ByteArray):(bts s).length=s.size:=by simp [bts]
theorem apT_r {l:List Int} {bytes nl:Nat} {z:Value} {s:ByteArray} {K:Sl→Hp→Prop} (I:Inv h (ownS (rI .u8) a nl c l::A)) (hz:z.cells.size=1) (hb:bytes ≠ 0) (hbb:bytes≤30000) (hl:Bnd (l.length+(bts s).length))
    (k: ∀ a1 c1 h',Inv h' (ownS (rI .u8) a1 (l++bts s).length c1 (l++bts s)::A)→K ⟨a1,(l++bts s).length,c1⟩ h'):apT T 1 bytes z h ⟨a,nl,c⟩ s K:=
  apV_r (E:=rI .u8) (m:=bts s) (a':=emp) I.emp_add.swap (by simp) (fun _=>els_I.2 (by simp [byteVals,bts])) hz hb hbb hl fun a1 c1 h' I=>k a1 c1 h' I.swap.drop1
theorem zeros_flat (z:Value) (n:Nat):zeros z n=(List.replicate n z.cells.toList).flatten:=rfl
theorem apZ_r {bytes nl:Nat} {z:Value} {z0:X} {n:Int} {K:Sl→Hp→Prop} (I:Inv h (ownS E a nl c l::A)) (hz: ∀ h M,E.P h M z.cells.toList z0) (hb:bytes ≠ 0) (hbb:bytes≤30000) (h0:0≤n) (hl:Bnd (l.length+n.toNat))
    (k: ∀ a1 c1 h',Inv h' (ownS E a1 (l++List.replicate n.toNat z0).length c1 (l++List.replicate n.toNat z0)::A)→K ⟨a1,(l++List.replicate n.toNat z0).length,c1⟩ h'):apZ T E.n bytes z h ⟨a,nl,c⟩ n K:=by
  obtain rfl:=own_len I
  have e1:(2:Nat) ^ 48=281474976710656:=by decide
  have e2:IntKind.i64.max=9223372036854775807:=by decide
  unfold Bnd at hl
  refine ⟨h0, ?_,by rw [e2]; simp only; omega, ?_⟩
  · obtain ⟨j, rfl⟩ := Int.eq_ofNat_of_zero_le h0
    have:j*bytes≤4294967296*30000:=Nat.mul_le_mul (by simp at hl; omega) hbb
    have e3:(2:Int) ^ 48=281474976710656:=by decide
    rw [e3]
    have:((j*bytes:Nat):Int)≤281474976710656:=by omega
    simpa using this
  · refine apV_r (m:=List.replicate n.toNat z0) (a':=emp) I.emp_add.swap (by simp) (fun _=>by rw [zeros_flat]; exact Els.repl (hz _ _) _) (by have:=E.len (hz h []); simpa using this) hb hbb (by simpa using hl) fun a1 c1 h' I=>k a1 c1 h' I.swap.drop1
theorem mk_r {bytes:Nat} {z:Value} {z0:X} {n:Int} {K:Sl→Hp→Prop} (I:Inv h A) (hz: ∀ h M,E.P h M z.cells.toList z0) (hbb:bytes≤30000) (hn:0≤n∧n≤4294967296)
    (k: ∀ a1 c1 h',Inv h' (ownS E a1 (List.replicate n.toNat z0).length c1 (List.replicate n.toNat z0)::A)→K ⟨a1,(List.replicate n.toNat z0).length,c1⟩ h'):mkW T E.n bytes z h n n K:=by
  obtain ⟨j,rfl⟩:=Int.eq_ofNat_of_zero_le hn.1
  have e2:IntKind.i64.max=9223372036854775807:=by decide
  have e3:(2:Int) ^ 48=281474976710656:=by decide
  refine ⟨⟨hn.1,Int.le_refl _, ?_⟩,by rw [e2]; omega, ?_⟩
  · have : j * bytes ≤ 4294967296 * 30000 := Nat.mul_le_mul (by omega) hbb
    rw [e3]
    have:((j*bytes:Nat):Int)≤281474976710656:=by omega
    simpa using this
  · have := k (some ⟨h.size, 0, none⟩) j (h.push (.cells (zeros z j).toArray T (0, 0))) ?_
    · simpa using this
    · obtain ⟨F, M, hF, _, _, _, H⟩ := I.emp_add.turn
      have hF:F=[]:=hF
      subst hF
      have hl:=E.len (hz h [])
      refine H _ [_] [[h.size]] (Keep.push _ _ _) (fun b hb=> .inr (by simp at hb; omega)) (by simp) fun M' _ _ _=>⟨⟨by simp,T,zeros z j, ?_,by rw [zeros_flat]; exact Els.repl (hz _ _) _⟩,trivial⟩
      have hzl:(zeros z j).length=j*E.n:=by rw [zeros_len,← hl]; simp
      have:=own_new (h:=h) (T:=T) (m:=E.n) (n:=j) hzl
      simpa using this
def sub (l:List X) (lo hi:Int):List X:=(l.take hi.toNat).drop lo.toNat
abbrev SlOk (l:List X) (lo hi:Int):Prop:=0≤lo∧lo≤hi∧hi≤l.length
theorem sub_length {l:List X} {lo hi:Int} (H:SlOk l lo hi):(sub l lo hi).length=hi.toNat - lo.toNat:=by
  unfold sub; simp; obtain ⟨h0,h1,h2⟩:=H; omega
abbrev resl (a:Option Addr) (c n:Nat) (lo:Int):Option Addr:=if c=lo.toNat then a else a.map (·.add (lo.toNat*n))
theorem add_block (x:Addr) (n:Nat):(x.add n).block=x.block:=by unfold Addr.add; split <;> rfl
theorem resl_block {n:Nat} {lo:Int} {x:Addr} (h:resl a c n lo=some x): ∃ y,a=some y∧y.block=x.block:=by
  unfold resl at h
  split at h
  · exact ⟨x,h,rfl⟩
  · cases a with
    | none=>cases h
    | some y=>simp at h; subst h; exact ⟨y,rfl,(add_block _ _).symm⟩
theorem slv_sub {n len:Nat} {lo hi:Int} (H:SlV h ⟨a,len,c⟩ n vs) (h0:0≤lo) (h1:lo≤hi) (h2:hi≤len) (hc:len≤c):
    SlV h ⟨resl a c n lo,hi.toNat - lo.toNat,c - lo.toNat⟩ n ((vs.take (hi.toNat*n)).drop (lo.toNat*n))∧hi.toNat - lo.toNat≤c - lo.toNat:=by
  have key:=slW_slv (K:=fun s=>s=⟨resl a c n lo,hi.toNat - lo.toNat,c - lo.toNat⟩→SlV h s n ((vs.take (hi.toNat*n)).drop (lo.toNat*n))∧s.len≤s.cap) H h0 h1 h2 hc (fun s hs _ hc _ _ e=>⟨hs,hc⟩)
  exact key.2.2 rfl
theorem sle_sub {lo hi:Int} (H:SlE E h M a c l) (hb:SlOk l lo hi):SlE E h M (resl a c E.n lo) (c - lo.toNat) (sub l lo hi):=by
  obtain ⟨vs,g1,g2,g3,g4⟩:=H
  obtain ⟨h0,h1,h2⟩:=hb
  obtain ⟨k1,k2⟩:=slv_sub g1 h0 h1 h2 g2
  have hsl:=sub_length (l:=l) ⟨h0,h1,h2⟩
  refine ⟨_,by rw [hsl]; exact k1,by rw [hsl]; exact k2,fun hne x hx=> ?_,g4.sub (by omega) (by omega)⟩
  obtain ⟨y,hy,e⟩:=resl_block hx
  rw [← e]
  exact g3 (by rintro rfl; simp at hne) y hy
theorem sl_step {lo hi:Int} {n:Nat} {K:Sl→Prop} (H:SlOk l lo hi) (hc:l.length≤c) (k:K ⟨resl a c n lo,(sub l lo hi).length,c - lo.toNat⟩):slW ⟨a,l.length,c⟩ lo hi n K:=by
  have hsl:=sub_length H
  obtain ⟨h0,h1,h2⟩:=H
  exact ⟨⟨by omega,by simp only; omega⟩,⟨h0,h1⟩,by rw [← hsl]; exact k⟩
theorem sl_rd {nl:Nat} {lo hi:Int} {K:Sl→Prop} (hX:Rd E a' a nl c l) (I:Inv h (a'::A)) (H:SlOk l lo hi) (k: ∀ a1 c1,Rd E a' a1 (sub l lo hi).length c1 (sub l lo hi)→K ⟨a1,(sub l lo hi).length,c1⟩):slW ⟨a,nl,c⟩ lo hi E.n K:=by
  obtain rfl:=rd_len hX I
  obtain ⟨F,M,hP⟩:=I.get
  obtain ⟨_,vs,g1,g2,g3⟩:=hX hP
  refine sl_step H g2 (k _ _ fun {h F M} hP=>⟨rfl, ?_⟩)
  obtain ⟨_,vs,g1,g2,g3⟩:=hX hP
  obtain ⟨h0,h1,h2⟩:=H
  obtain ⟨k1,k2⟩:=slv_sub g1 h0 h1 h2 g2
  have hsl:=sub_length (l:=l) ⟨h0,h1,h2⟩
  exact ⟨_,by rw [hsl]; exact k1,by rw [hsl]; exact k2,g3.sub (by omega) (by omega)⟩
theorem sl_ro {nl:Nat} {lo hi:Int} {K:Sl→Prop} (I:Inv h (roS E a nl c l::A)) (H:SlOk l lo hi) (k: ∀ a1 c1,Inv h (roS E a1 (sub l lo hi).length c1 (sub l lo hi)::A)→K ⟨a1,(sub l lo hi).length,c1⟩):slW ⟨a,nl,c⟩ lo hi E.n K:=by
  obtain rfl:=ro_len I
  obtain ⟨F,M,hF,_,vs,g1,g2,g3,g4⟩:=I.get
  exact sl_step H g2 (k _ _ (I.conv fun F M ⟨hF,_,hs⟩=>⟨hF,rfl,sle_sub hs H⟩))
theorem sl_own {nl:Nat} {lo hi:Int} {K:Sl→Prop} (I:Inv h (ownS E a nl c l::A)) (H:SlOk l lo hi) (k: ∀ a1 c1,Inv h (ownS E a1 (sub l lo hi).length c1 (sub l lo hi)::A)→K ⟨a1,(sub l lo hi).length,c1⟩):slW ⟨a,nl,c⟩ lo hi E.n K:=by
  obtain rfl:=own_len I
  obtain ⟨F,M,_,T,vs,g1,g2⟩:=I.get
  refine sl_step H g1.2.1 (k _ _ (I.conv fun F M ⟨_,T,vs,g1,g2⟩=>⟨rfl, ?_⟩))
  have hsl:=sub_length H
  obtain ⟨h0,h1,h2⟩:=H
  have key:=slW_own (K:=fun s=>s=⟨resl a c E.n lo,hi.toNat - lo.toNat,c - lo.toNat⟩→Own h s T E.n ((vs.take (hi.toNat*E.n)).drop (lo.toNat*E.n)) F) g1 h0 h1 h2 (fun s hs _ _ e=>hs)
  exact ⟨T,_,by rw [hsl]; exact key.2.2 rfl,g2.sub (by omega) (by omega)⟩
def cpL (l m:List X):List X:=m.take l.length++l.drop m.length
theorem cpL_length (l m:List X):(cpL l m).length=l.length:=by unfold cpL; simp; omega
theorem own_stAll {s : Sl} {n : Nat} {F : List Nat} {K : Hp → Prop} {us : List Value} (H : Own h s T n us F) (hw : ws.length ≤ us.length) (ho : ∀ v ∈ ws, v.oneCell' = true)
    (k: ∀ h',Own h' s T n (ws++us.drop ws.length) F→Keep F h h'→K h'):(match s.a with | some a=>stAll h a 0 ws K | none=>K h):=by
  have H0:=H
  obtain ⟨g1,g2,g3⟩:=H
  cases ha:s.a with
  | none =>
    rw [ha] at g3
    have : us = [] := List.length_eq_zero_iff.1 (by rw [g1]; have : s.len = 0 := by omega
                                                    rw [this]; simp)
    subst this
    obtain rfl:ws=[]:=List.length_eq_zero_iff.1 (by simpa using hw)
    exact k h (by simpa using H0) (Keep.refl _ _)
  | some y =>
    rw [ha] at g3
    obtain ⟨b,o,sp⟩:=y
    obtain ⟨hf,hs,pre,post,z,hb,hp,hl,hz⟩:=g3
    simp only at hs hb hp hf hz hl; subst hs
    have hcap:s.len*n≤s.cap*n:=Nat.mul_le_mul_right _ g2
    refine stAll_mid (T:=T) (z:=z) ws (us.take ws.length) h pre (us.drop ws.length++post) 0 ?_ (by simp; omega) (by omega) (by omega) ho fun h' hb' k' hs'=> ?_
    · rw [hb]; congr 2
      conv=>lhs; rw [← List.take_append_drop ws.length us]
      simp only [List.append_assoc]
    · refine k h' ⟨by simp; omega, g2, ?_⟩ (by rw [hf]; exact k')
      rw [ha]
      exact ⟨hf,rfl,pre,post,z,by rw [hb']; simp only [List.append_assoc],hp,by simp; omega,hz⟩
theorem cp_r {nl nm : Nat} {K : Int → Hp → Prop} (hX : Rd E a' a2 nm c2 m) (I : Inv h (ownS E a nl c l :: a' :: A)) (k : ∀ h', Inv h' (ownS E a nl c (cpL l m) :: a' :: A) → K (min nm nl : Nat) h') :
    cpW E.n h ⟨a,nl,c⟩ ⟨a2,nm,c2⟩ K:=by
  obtain rfl:=rd_len hX I.swap
  obtain rfl:=own_len I
  obtain ⟨F,M,⟨F1,F2,eF,⟨_,T',vs,h1,h2⟩,h3⟩,hFM,hnd,hlt,H⟩:=I.sepI.turn
  subst eF
  obtain ⟨_,ws,g1,g2,g3⟩:=hX h3
  have hwl:=g3.len
  have hvl:=h2.len
  have hmin:min m.length l.length*E.n≤ws.length:=by rw [hwl]; exact Nat.mul_le_mul_right _ (Nat.min_le_left _ _)
  have hmin2:min m.length l.length*E.n≤vs.length:=by rw [hvl]; exact Nat.mul_le_mul_right _ (Nat.min_le_right _ _)
  refine ⟨ws.take (min m.length l.length*E.n), ?_, ?_⟩
  · have := (g1.take (i := min m.length l.length) (Nat.min_le_left _ _) c2).cellsAt
    exact this
  · have key := own_stAll (K := fun h' => K (min m.length l.length : Nat) h') (ws := ws.take (min m.length l.length * E.n)) h1 (by rw [List.length_take]; omega) (fun v hv => g3.one v (List.mem_of_mem_take hv)) fun h' hO hk => ?_
    · exact key
    · obtain ⟨d1, d2, d3⟩ := List.nodup_append.1 hnd
      have hF2:=a'.lt h3
      have el:(cpL l m).length=l.length:=cpL_length l m
      refine k h' (H h' [_,a'] [F1,F2] (hk.mono fun b hb=> .inl (by simp [hb])) (fun b hb=> .inl (by rw [flat2] at hb; exact hb)) (by rw [flat2]; exact hnd) fun M' hL _ _=>⟨⟨el.symm,T',_,by rw [el]; exact hO, ?_⟩,a'.mono (fun b hb=>hk.2 b (hF2 b hb) fun e=>d3 b e b hb rfl) hL h3,trivial⟩)
      have hlt:(ws.take (min m.length l.length*E.n)).length=min m.length l.length*E.n:=by rw [List.length_take]; omega
      rw [hlt]
      have e1:m.take l.length=m.take (min m.length l.length):=by rw [List.take_eq_take_iff]; omega
      have e2:l.drop m.length=l.drop (min m.length l.length):=by
        rcases Nat.le_total m.length l.length with h | h
        · rw [Nat.min_eq_left h]
        · rw [Nat.min_eq_right h,List.drop_eq_nil_of_le h,List.drop_eq_nil_of_le (Nat.le_refl _)]
      unfold cpL
      rw [e1,e2]
      exact ((g3.take_drop _ (Nat.min_le_left _ _)).1.mono hL).append ((h2.take_drop _ (Nat.min_le_right _ _)).2.mono hL)
theorem cl_r {nl:Nat} {z:Value} {z0:X} {K:Hp→Prop} (I:Inv h (ownS E a nl c l::A)) (hz: ∀ h M,E.P h M z.cells.toList z0) (k: ∀ h',Inv h' (ownS E a nl c (List.replicate nl z0)::A)→K h'):
    clW z h ⟨a,nl,c⟩ K:=by
  obtain rfl:=own_len I
  obtain ⟨F,M,⟨_,T,vs,h1,h2⟩,hFM,hnd,hlt,H⟩:=I.turn
  have hvl:=h2.len
  have hE:=E.len (hz h M)
  have hzl:(zeros z l.length).length=l.length*E.n:=by rw [zeros_len,← hE]; simp
  have hrep: ∀ M',Els E h M' (zeros z l.length) (List.replicate l.length z0):=fun M'=>by rw [zeros_flat]; exact Els.repl (hz _ _) _
  have key:=own_stAll (K:=K) (ws:=zeros z l.length) h1 (by omega) (hrep M).one fun h' hO hk=> ?_
  · unfold clW
    cases a with
    | none=>exact key
    | some x=>exact key
  · refine k h' (H h' [_] [F] hk (fun b hb => .inl (by simpa using hb)) (by simpa using hnd) fun M' hL _ _ => ⟨⟨by simp, T, zeros z l.length, ?_, by rw [zeros_flat]; exact Els.repl (hz _ _) _⟩, trivial⟩)
    rw [List.drop_eq_nil_of_le (by omega),List.append_nil] at hO
    simpa using hO
end Go.Pu
namespace Go.Pu
open Go Go.Wc
structure Ky (κ:Type) [DecidableEq κ] where
  kd:Kd
  enc:κ→Value
  same: ∀ a b,sameK kd (enc a) (enc b)=some (decide (a=b))
@[reducible] def kI (k:IntKind):Ky Int:=⟨.int k,fun n=> .int k n,fun a b=>by
  simp only [sameK,if_true]
  by_cases h:a=b
  · subst h; simp
  · simp [h]⟩
variable {κ V X:Type} [DecidableEq κ] {Kx:Ky κ} {E:Rp V} {h h':Hp} {M M':List Nat} {A:List At} {a a':At} {agg:Bool}
def look:List (κ × V)→κ→Option V
  | [],_=>none
  | (k',v')::L,k=>if k=k' then some v' else look L k
def upd:List (κ × V)→κ→V→List (κ × V)
  | [],k,v=>[(k,v)]
  | (k',v')::L,k,v=>if k=k' then (k,v)::L else (k',v')::upd L k v
def del:List (κ × V)→κ→List (κ × V)
  | [],_=>[]
  | (k',v')::L,k=>if k=k' then L else (k',v')::del L k
abbrev lkO (L:Option (List (κ × V))) (k:κ):Option V:=look (L.getD []) k
def lkP (L:Option (List (κ × V))) (k:κ) (z:V) (K:V→Bool→Prop):Prop:=K ((lkO L k).getD z) (lkO L k).isSome
def dlP (L:Option (List (κ × V))) (k:κ) (K:Option (List (κ × V))→Prop):Prop:=K (L.map (del · k))
def muP (L:Option (List (κ × V))) (k:κ) (v:V) (K:Option (List (κ × V))→Prop):Prop:= ∃ L0,L=some L0∧K (some (upd L0 k v))
@[reducible] def vOf (agg:Bool) (vs:List Value):Value:=match agg with
  | true=> .agg vs.toArray
  | false=>vs.headD undef
def entR (Kx:Ky κ) (E:Rp V) (agg:Bool) (h:Hp) (M:List Nat) (e:MapEntry) (p:κ × V):Prop:=e.key=Kx.enc p.1∧ ∃ vs,e.val=vOf agg vs∧E.P h M vs p.2
theorem entR.mono {e:MapEntry} {p:κ × V} (hL:Le h M h' M'):entR Kx E agg h M e p→entR Kx E agg h' M' e p:=fun ⟨h1,vs,h2,h3⟩=>⟨h1,vs,h2,E.mono hL h3⟩
def mapX (Kx : Ky κ) (E : Rp V) (agg : Bool) (m : Option Nat) (o : Option (Array MapEntry × Nat)) (L : Option (List (κ × V))) : At :=
  ⟨fun h F M=>match m,o,L with
      | none,none,none=>F=[]
      | some r,some (es,ck),some L=>F=[r]∧h[r]? =some (.map es ck)∧All2 (entR Kx E agg h M) es.toList L∧MapKept.Stamped es ck
      | _,_,_=>False,
    by
      intro h F M h' M' hk hL H
      split at H
      · exact H
      · obtain ⟨h1, h2, h3, h4⟩ := H
        exact ⟨h1,by rw [hk _ (by rw [h1]; simp),h2],h3.mono fun _ _=>entR.mono hL,h4⟩
      · exact H,
    by
      intro h F M H b hb
      split at H
      · subst H; cases hb
      · obtain ⟨h1, h2, h3⟩ := H
        subst h1; simp at hb; subst hb; exact lt_of_get h2
      · exact H.elim⟩
def mapA (Kx:Ky κ) (E:Rp V) (agg:Bool) (m:Option Nat) (L:Option (List (κ × V))):At:=exA fun o=>mapX Kx E agg m o L
theorem map_none {m:Option Nat} {o:Option (Array MapEntry × Nat)} {L:Option (List (κ × V))} (I:Inv h (mapX Kx E agg m o L::A)):Option.isNone m=Option.isNone L:=by
  obtain ⟨F,M,H⟩:=I.get
  cases m <;> cases o <;> cases L <;> first | rfl | exact (H:False).elim
theorem Inv.nilM (Kx:Ky κ) (E:Rp V) (agg:Bool) (I:Inv h A):Inv h (mapX Kx E agg none none none::A):=I.addP fun M _=>rfl
theorem amW_r {K:Nat→Hp→Prop} (Kx:Ky κ) (E:Rp V) (agg:Bool) (I:Inv h A) (k: ∀ r h' o,Inv h' (mapX Kx E agg (some r) o (some [])::A)→K r h'):amW h K:=by
  refine k _ _ (some (#[],0)) ?_
  obtain ⟨F,M,hF,_,_,_,H⟩:=I.emp_add.turn
  have hF:F=[]:=hF
  subst hF
  exact H _ [_] [[h.size]] (Keep.push _ _ _) (fun b hb=> .inr (by simp at hb; omega)) (by simp) fun M' _ _ _=>⟨⟨rfl,push_get _ _, .nil,MapKept.stamped_empty _⟩,trivial⟩
def fiA:List (κ × V)→κ→Nat→Option Nat
  | [],_,_=>none
  | (k',v)::L,k,i=>if k=k' then some i else fiA L k (i+1)
theorem mfind_all {k:κ}: ∀ {es:List MapEntry} {L:List (κ × V)} (i:Nat),All2 (entR Kx E agg h M) es L→
    (look L k=none∧mfind Kx.kd (Kx.enc k) es i=some none∧fiA L k i=none)∨
    ∃ x j v,look L k=some x∧mfind Kx.kd (Kx.enc k) es i=some (some (j,v))∧fiA L k i=some j∧ ∃ vs,v=vOf agg vs∧E.P h M vs x
  | _,_,i, .nil=> .inl ⟨rfl,rfl,rfl⟩
  | e :: es, (k', x) :: L, i, .cons ⟨h1, vs, h2, h3⟩ h4 => by
    simp only at h1 h3
    simp only [mfind,h1,Kx.same,look,fiA]
    by_cases e:k=k'
    · subst e
      simp only [decide_true,if_true]
      exact .inr ⟨x,i,_,rfl,rfl,rfl,vs,h2,h3⟩
    · simp only [e, decide_false, if_false]
      exact mfind_all (i+1) h4
theorem lk_r {m:Option Nat} {o:Option (Array MapEntry × Nat)} {L:Option (List (κ × V))} {key:κ} {zv:Value} {zvs:List Value} {z0:V} {K:(Hp→Prop)→Option Value→Prop}
    (I:Inv h (mapX Kx E agg m o L::A)) (hz:zv=vOf agg zvs) (hz0: ∀ h M,E.P h M zvs z0)
    (k: ∀ f ov vs,ov.getD zv=vOf agg vs→ov.isSome=(lkO L key).isSome→(∀ {h' A'},Inv h' (mapX Kx E agg m o L::A')→f h')→Inv h (repA E vs ((lkO L key).getD z0)::mapX Kx E agg m o L::A)→K f ov):
    lkW Kx.kd h m (Kx.enc key) K:=by
  obtain ⟨F,M,H,hFM,hn,hlt,HH⟩:=I.turn
  have fin: ∀ vs x,E.P h M vs x→Inv h (repA E vs x::mapX Kx E agg m o L::A):=fun vs x hx=>
    HH h [repA E vs x,mapX Kx E agg m o L] [[],F] (Keep.refl _ _) (fun b hb=> .inl (by simpa using hb)) (by simpa using hn) fun M' hL _ _=>⟨⟨rfl,E.mono hL hx⟩,At.mono _ (fun _ _=>rfl) hL H,trivial⟩
  match m,o,L,I,H,fin,k with
  | none,none,none,I,H,fin,k=>exact k _ none zvs hz rfl (fun _=>trivial) (fin _ _ (hz0 _ _))
  | some r, some (es, ck), some L, I, H, fin, k =>
    obtain ⟨h1,h2,h3,h4⟩:=H
    rcases mfind_all (k:=key) 0 h3 with ⟨g1,g2,_⟩ | ⟨x,j,v,g1,g2,_,vs,g3,g4⟩
    · refine ⟨es, ck, h2, _, g2, k _ _ zvs hz (by simp [lkO, g1]) (fun {h' A'} J => ?_) (by simp only [lkO, Option.getD_some, g1, Option.getD_none]; exact fin _ _ (hz0 _ _))⟩
      obtain ⟨_,_,_,j1,j2⟩:=J.get
      exact ⟨es,ck,_,j1,g2,rfl⟩
    · refine ⟨es, ck, h2, _, g2, k _ _ vs (by simpa using g3) (by simp [lkO, g1]) (fun {h' A'} J => ?_) (by simp only [lkO, Option.getD_some, g1]; exact fin _ _ g4)⟩
      obtain ⟨_,_,_,j1,j2⟩:=J.get
      exact ⟨es,ck,_,j1,g2,rfl⟩
theorem lkB_r {m:Option Nat} {o:Option (Array MapEntry × Nat)} {L:Option (List (κ × Bool))} {key:κ} {K:(Hp→Prop)→Bool→Bool→Prop}
    {K':Bool→Bool→Prop} (I:Inv h (mapX Kx rB false m o L::A)) (H:lkP L key false K') (k: ∀ f y ok,(∀ {h' A'},Inv h' (mapX Kx rB false m o L::A')→f h')→K' y ok→K f y ok):
    lkW Kx.kd h m (Kx.enc key) fun f ov=>isB (ov.getD (.bool false)) fun y=>letB ov.isSome fun ok=>K f y ok:=
  lk_r (zvs:=[.bool false]) I rfl (fun _ _=>rfl) fun f ov vs h1 h2 hf J=>by
    obtain ⟨_,_,_,e⟩:=J.get
    have e:vs=[.bool ((lkO L key).getD false)]:=e
    subst e
    refine ⟨_,h1, ?_⟩
    show K f _ ov.isSome
    rw [h2]; exact k f _ _ hf H
theorem lkI_r {ik:IntKind} {m:Option Nat} {o:Option (Array MapEntry × Nat)} {L:Option (List (κ × Int))} {key:κ} {K:(Hp→Prop)→Int→Bool→Prop}
    {K':Int→Bool→Prop} (I:Inv h (mapX Kx (rI ik) false m o L::A)) (H:lkP L key 0 K') (k: ∀ f y ok,(∀ {h' A'},Inv h' (mapX Kx (rI ik) false m o L::A')→f h')→K' y ok→K f y ok):
    lkW Kx.kd h m (Kx.enc key) fun f ov=>isI ik (ov.getD (.int ik 0)) fun y=>letB ov.isSome fun ok=>K f y ok:=
  lk_r (zvs:=[.int ik 0]) I rfl (fun _ _=>rfl) fun f ov vs h1 h2 hf J=>by
    obtain ⟨_,_,_,e⟩:=J.get
    have e:vs=[.int ik ((lkO L key).getD 0)]:=e
    subst e
    refine ⟨_,h1, ?_⟩
    show K f _ ov.isSome
    rw [h2]; exact k f _ _ hf H
theorem lkS_r {E:Rp X} {m:Option Nat} {o:Option (Array MapEntry × Nat)} {L:Option (List (κ × List X))} {key:κ} {K:(Hp→Prop)→Sl→Bool→Prop}
    {K':List X→Bool→Prop} (I:Inv h (mapX Kx (rS E) false m o L::A)) (H:lkP L key [] K') (k: ∀ f a1 c1 y ok,(∀ {h' A'},Inv h' (mapX Kx (rS E) false m o L::A')→f h')→Inv h (roS E a1 y.length c1 y::mapX Kx (rS E) false m o L::A)→K' y ok→
      K f ⟨a1,y.length,c1⟩ ok):
    lkW Kx.kd h m (Kx.enc key) fun f ov=>isS (ov.getD (.slice none 0 0)) fun y=>letB ov.isSome fun ok=>K f y ok:=
  lk_r (zvs:=[.slice none 0 0]) (z0:=[]) I rfl (fun _ _=>⟨none,0,rfl,[],SlV.nil _ _,Nat.le_refl _,fun h=>absurd rfl h,rfl⟩) fun f ov vs h1 h2 hf J=>by
    obtain ⟨a1,c1,e,J2⟩:=J.repS
    subst e
    refine ⟨⟨a1,_,c1⟩,h1, ?_⟩
    show K f _ ov.isSome
    rw [h2]; exact k f a1 c1 _ _ hf J2 H
theorem upd_fi {L:List (κ × V)} {k:κ} {v:V}: ∀ {n:Nat},(fiA L k n=none→upd L k v=L++[(k,v)])∧ ∀ j,fiA L k n=some j→n≤j∧j - n<L.length∧upd L k v=L.set (j - n) (k,v)∧del L k=L.eraseIdx (j - n):=by
  induction L with
  | nil=>intro n; exact ⟨fun _=>rfl,fun j h=>by simp [fiA] at h⟩
  | cons p L ih =>
    obtain ⟨k',v'⟩:=p
    intro n
    simp only [fiA,upd,del]
    by_cases e:k=k'
    · subst e
      simp only [if_true]
      exact ⟨fun h=>by simp at h,fun j h=>by simp at h; subst h; simp⟩
    · simp only [e, if_false]
      obtain ⟨h1,h2⟩:=ih (n:=n+1)
      refine ⟨fun h=>by rw [h1 h]; rfl,fun j h=> ?_⟩
      obtain ⟨g1,g2,g3,g4⟩:=h2 j h
      rw [g3,g4,show j - n=(j - (n+1))+1 from by omega]
      exact ⟨by omega,by simp; omega,rfl,rfl⟩
theorem del_fi {L:List (κ × V)} {k:κ}: ∀ {n:Nat},fiA L k n=none→del L k=L:=by
  induction L with
  | nil=>intro n _; rfl
  | cons p L ih =>
    obtain ⟨k',v'⟩:=p
    intro n h
    simp only [fiA] at h
    split at h
    · cases h
    · rename_i e; simp only [del,e,if_false]; rw [ih h]
theorem all2_append {α β:Type} {S:α→β→Prop} {l:List α} {m:List β} {l2:List α} {m2:List β} (H:All2 S l m) (H2:All2 S l2 m2):All2 S (l++l2) (m++m2):=by
  induction H with
  | nil=>exact H2
  | cons h1 _ ih=>exact .cons h1 ih
theorem all2_set {α β:Type} {S:α→β→Prop} {l:List α} {m:List β} {x:α} {y:β} (H:All2 S l m) (i:Nat) (hx:S x y):All2 S (l.set i x) (m.set i y):=by
  induction H generalizing i with
  | nil=>exact .nil
  | cons h1 h2 ih => cases i with
    | zero=>exact .cons hx h2
    | succ i=>exact .cons h1 (ih i)
theorem all2_erase {α β:Type} {S:α→β→Prop} {l:List α} {m:List β} (H:All2 S l m) (i:Nat):All2 S (l.eraseIdx i) (m.eraseIdx i):=by
  induction H generalizing i with
  | nil=>exact .nil
  | cons h1 h2 ih => cases i with
    | zero=>exact h2
    | succ i=>exact .cons h1 (ih i)
theorem all2_len {α β:Type} {S:α→β→Prop} {l:List α} {m:List β} (H:All2 S l m):l.length=m.length:=by
  induction H with
  | nil=>rfl
  | cons h1 h2 ih=>simp [ih]
theorem mfind_key {k:κ}: ∀ {es:List MapEntry} {L:List (κ × V)} (i:Nat),All2 (entR Kx E agg h M) es L→ ∀ j v,mfind Kx.kd (Kx.enc k) es i=some (some (j,v))→ ∃ e,es[j - i]? =some e∧e.key=Kx.enc k
  | _,_,i, .nil,j,v,H=>by simp [mfind] at H
  | e :: es, (k', x) :: L, i, .cons ⟨h1, _⟩ h4, j, v, H => by
    simp only at h1
    simp only [mfind,h1,Kx.same] at H
    by_cases e2:k=k'
    · subst e2
      simp at H
      obtain ⟨rfl,_⟩:=H
      exact ⟨e,by simp,h1⟩
    · simp only [e2, decide_false] at H
      obtain ⟨e',g1,g2⟩:=mfind_key (i+1) h4 j v H
      have:=(mfind_some H).1
      exact ⟨e',by rw [show j - i=(j - (i+1))+1 from by omega]; simpa using g1,g2⟩
theorem modify_toList (es:Array MapEntry) (i:Nat) (f:MapEntry→MapEntry):(es.modify i f).toList=es.toList.modify i f:=by simp
theorem Ky.inj (Kx:Ky κ) {a b:κ} (e:Kx.enc a=Kx.enc b):a=b:=by
  have h1:=Kx.same a a
  have h2:=Kx.same a b
  rw [← e,h1] at h2
  simpa using h2
theorem fi_none {k:κ}: ∀ {es:List MapEntry} {L:List (κ × V)} {i:Nat},All2 (entR Kx E agg h M) es L→fiA L k i=none→ ∀ e ∈ es,e.key ≠ Kx.enc k
  | _,_,_, .nil,_,e,he=>by cases he
  | e0 :: es, (k', x) :: L, i, .cons ⟨h1, _⟩ h4, H, e, he => by
    simp only [fiA] at H
    split at H
    · cases H
    · rename_i hne
      rcases List.mem_cons.1 he with rfl | he
      · intro e2; rw [h1] at e2; exact hne (Kx.inj e2).symm
      · exact fi_none h4 H e he
theorem mu_obj {es : Array MapEntry} {ck : Nat} {L0 : List (κ × V)} {key : κ} {v : Value} {vs : List Value} {x : V} (h3 : All2 (entR Kx E agg h M) es.toList L0) (h4 : MapKept.Stamped es ck) (hv : v = vOf agg vs) (hx : E.P h M vs x) :
    ∃ oo es' ck',mfind Kx.kd (Kx.enc key) es.toList 0=some oo∧muO es ck (Kx.enc key) v oo= .map es' ck'∧(∀ h' M',Le h M h' M'→(All2 (entR Kx E agg h' M') es'.toList (upd L0 key x)))∧MapKept.Stamped es' ck':=by
  rcases mfind_all (k:=key) 0 h3 with ⟨g1,g2,g3⟩ | ⟨y,j,w,g1,g2,g3,_⟩
  · refine ⟨none, es.push { key := Kx.enc key, val := v, born := ck }, ck + 1, g2, rfl, fun h' M' hL => ?_, MapKept.stamped_push h4 (fi_none h3 g3)⟩
    rw [upd_fi.1 g3]
    simp only [Array.toList_push]
    exact all2_append (h3.mono fun _ _=>entR.mono hL) (.cons ⟨rfl,vs,hv,E.mono hL hx⟩ .nil)
  · have hst : MapKept.Stamped (es.modify j fun e => { e with key := Kx.enc key, val := v }) ck := MapKept.stamped_modify h4 _ _ (fun _ _ => rfl) (fun e he hj => by
      obtain ⟨e',q1,q2⟩:=mfind_key 0 h3 j w g2
      rw [Nat.sub_zero,Array.getElem?_toList,hj] at q1
      cases q1; exact q2.symm)
    refine ⟨some (j,w),es.modify j fun e=> {e with key:=Kx.enc key,val:=v},ck,g2,rfl,fun h' M' hL=> ?_,hst⟩
    obtain ⟨u1,u2,u3,_⟩:=(upd_fi (v:=x)).2 j g3
    rw [u3]
    have hlen:=all2_len h3
    have hlt2:j<es.toList.length:=by omega
    have:(es.modify j fun e=> {e with key:=Kx.enc key,val:=v}).toList=es.toList.set j {es.toList[j] with key:=Kx.enc key,val:=v}:=by
      apply List.ext_getElem
      · simp
      · intro i i1 i2
        simp only [Array.getElem_toList,Array.getElem_modify,List.getElem_set]
        split
        · rename_i e; subst e; rfl
        · rfl
    rw [this]
    exact all2_set (h3.mono fun _ _=>entR.mono hL) _ ⟨rfl,vs,hv,E.mono hL hx⟩
theorem set_le {r:Nat} {o o':Obj} (hr:h[r]? =some o):(h.setIfInBounds r o')[r]? =some o':=by
  have:=lt_of_get hr
  simp [this]
theorem mu_r {m:Option Nat} {o:Option (Array MapEntry × Nat)} {L:Option (List (κ × V))} {key:κ} {v:Value} {vs:List Value} {x:V} {K:Hp→Prop} {K':Option (List (κ × V))→Prop}
    (I:Inv h (repA E vs x::mapX Kx E agg m o L::A)) (hv:v=vOf agg vs) (H:muP L key x K')
    (k: ∀ h' o' L',Inv h' (mapX Kx E agg m o' L'::A)→K' L'→K h'):muW Kx.kd h m (Kx.enc key) v K:=by
  obtain ⟨F,M,⟨F1,F2,eF,⟨e1,hx⟩,hm⟩,hFM,hn,hlt,HH⟩:=I.sepI.turn
  subst e1
  obtain rfl:F=F2:=by simpa using eF
  obtain ⟨L0,rfl,HK⟩:=H
  match m,o,hm,k,HH with
  | some r, some (es, ck), hm, k, HH =>
    obtain ⟨h1,h2,h3,h4⟩:=hm
    obtain ⟨oo,es',ck',g0,g1,g2,g3⟩:=mu_obj (ck:=ck) (key:=key) h3 h4 hv hx
    refine ⟨r,rfl,es,ck,h2,oo,g0, ?_⟩
    rw [g1]
    exact k _ (some (es',ck')) (some (upd L0 key x)) (HH _ [mapX Kx E agg (some r) (some (es',ck')) (some (upd L0 key x))] [F] (Keep.set _ (by rw [h1]; simp)) (fun b hb=> .inl (by simpa using hb)) (by simpa using hn) fun M' hL _ _=>⟨⟨h1,set_le h2,g2 _ _ hL,g3⟩,trivial⟩) HK
  | none,none,hm,_,_=>exact (hm:False).elim
  | none,some _,hm,_,_=>exact (hm:False).elim
  | some _,none,hm,_,_=>exact (hm:False).elim
theorem dl_r {m:Option Nat} {o:Option (Array MapEntry × Nat)} {L:Option (List (κ × V))} {key:κ} {K:Hp→Prop}
    {K':Option (List (κ × V))→Prop} (I:Inv h (mapX Kx E agg m o L::A)) (H:dlP L key K') (k: ∀ h' o' L',Inv h' (mapX Kx E agg m o' L'::A)→K' L'→K h'):dlW Kx.kd h m (Kx.enc key) K:=by
  have k: ∀ h' o',Inv h' (mapX Kx E agg m o' (L.map (del · key))::A)→K h':=fun h' o' J=>k h' o' _ J H
  obtain ⟨F,M,hm,hFM,hn,hlt,HH⟩:=I.turn
  match m,o,L,I,hm,k,HH with
  | none,none,none,I,hm,k,HH=>exact k h none I
  | some r, some (es, ck), some L, I, hm, k, HH =>
    obtain ⟨h1,h2,h3,h4⟩:=hm
    have fin: ∀ oo es',mfind Kx.kd (Kx.enc key) es.toList 0=some oo→dlO es ck oo= .map es' ck→MapKept.Stamped es' ck→(∀ h' M',Le h M h' M'→All2 (entR Kx E agg h' M') es'.toList (del L key))→dlW Kx.kd h (some r) (Kx.enc key) K:=by
      intro oo es' g0 g1 gs g2
      refine ⟨es,ck,h2,oo,g0, ?_⟩
      rw [g1]
      exact k _ (some (es',ck)) (HH _ [mapX Kx E agg (some r) (some (es',ck)) (some (del L key))] [F] (Keep.set _ (by rw [h1]; simp)) (fun b hb=> .inl (by simpa using hb)) (by simpa using hn) fun M' hL _ _=>⟨⟨h1,set_le h2,g2 _ _ hL,gs⟩,trivial⟩)
    rcases mfind_all (k:=key) 0 h3 with ⟨g1,g2,g3⟩ | ⟨y,j,w,g1,g2,g3,vs,g4,g5⟩
    · exact fin none es g2 rfl h4 fun h' M' hL=>by rw [del_fi g3]; exact h3.mono fun _ _=>entR.mono hL
    · obtain ⟨u1, u2, _, u3⟩ := (upd_fi (v := y)).2 j g3
      have hlen:=all2_len h3
      have hlt2 : j < es.size := by have : es.size = es.toList.length := by simp
                                    omega
      refine fin (some (j,w)) (es.eraseIdxIfInBounds j) g2 rfl (MapKept.stamped_erase h4 _) fun h' M' hL=> ?_
      rw [u3,Nat.sub_zero]
      simp only [Array.eraseIdxIfInBounds,hlt2,dif_pos,Array.toList_eraseIdx]
      exact all2_erase (h3.mono fun _ _=>entR.mono hL) _
  | none,none,some _,_,hm,_,_=>exact (hm:False).elim
  | none,some _,none,_,hm,_,_=>exact (hm:False).elim
  | none,some _,some _,_,hm,_,_=>exact (hm:False).elim
  | some _,none,none,_,hm,_,_=>exact (hm:False).elim
  | some _,none,some _,_,hm,_,_=>exact (hm:False).elim
  | some _,some _,none,_,hm,_,_=>exact (hm:False).elim
theorem ln_r {m:Option Nat} {o:Option (Array MapEntry × Nat)} {L:Option (List (κ × V))} {K:(Hp→Prop)→Int→Prop}
    (I:Inv h (mapX Kx E agg m o L::A)) (k: ∀ f,(∀ {h' A'},Inv h' (mapX Kx E agg m o L::A')→f h')→K f ((L.getD []).length:Nat)):lnM h m K:=by
  obtain ⟨F,M,hm⟩:=I.get
  match m,o,L,I,hm,k with
  | none,none,none,I,hm,k=>exact k _ fun _=>trivial
  | some r, some (es, ck), some L, I, hm, k =>
    obtain ⟨h1,h2,h3,_⟩:=hm
    have e:es.size=L.length:=by have:=all2_len h3; simpa using this
    refine ⟨es,ck,h2, ?_⟩
    rw [e]
    refine k _ fun {h' A'} J=> ?_
    obtain ⟨_,_,_,j1,_⟩:=J.get
    exact ⟨es,ck,j1,e⟩
  | none,none,some _,_,hm,_=>exact (hm:False).elim
  | none,some _,none,_,hm,_=>exact (hm:False).elim
  | none,some _,some _,_,hm,_=>exact (hm:False).elim
  | some _,none,none,_,hm,_=>exact (hm:False).elim
  | some _,none,some _,_,hm,_=>exact (hm:False).elim
  | some _,some _,none,_,hm,_=>exact (hm:False).elim
def bigA (As : List At) : At :=
  ⟨fun h F M=> ∃ Fs:List (List Nat),F=Fs.flatten∧Fits h M As Fs,by
    rintro h F M h' M' hk hL ⟨Fs,rfl,H⟩
    exact ⟨Fs,rfl,H.mono hL hk⟩,by
    rintro h F M ⟨Fs,rfl,H⟩
    exact H.lt⟩
theorem Inv.bigE {As:List At} (I:Inv h (bigA As::A)):Inv h (As++A):=by
  obtain ⟨Fs,hf,hn⟩:=I
  match Fs,hf,hn with
  | F :: Fs, hf, hn =>
    obtain ⟨⟨Gs,rfl,h1⟩,h2⟩:=hf
    have e:(Gs++Fs).flatten=(Gs.flatten::Fs).flatten:=by simp
    exact ⟨Gs++Fs,by rw [e]; exact h1.append h2,by rw [e]; exact hn⟩
theorem Inv.bigI {As:List At} (I:Inv h (As++A)):Inv h (bigA As::A):=by
  obtain ⟨Fs,hf,hn⟩:=I
  obtain ⟨Gs,Hs,rfl,h1,h2⟩:=hf.split
  have e:(Gs++Hs).flatten=(Gs.flatten::Hs).flatten:=by simp
  exact ⟨Gs.flatten::Hs,⟨⟨Gs,rfl,e ▸ h1⟩,e ▸ h2⟩,e ▸ hn⟩
theorem Inv.mid: ∀ {X:List At} {Y:List At},Inv h (X++a::Y)→Inv h (a::(X++Y))
  | [],Y,I=>I
  | x :: X, Y, I => (I.under (B := a :: (X ++ Y)) fun J => by
      have J:Inv h (X++a::(Y++[x])):=by simpa using J
      have:=Inv.mid J
      simpa using this).swap
theorem Inv.mid': ∀ {X:List At} {Y:List At},Inv h (a::(X++Y))→Inv h (X++a::Y)
  | [],Y,I=>I
  | x :: X, Y, I => (Inv.swap I).under fun J => by
      have J:Inv h (a::(X++(Y++[x]))):=by simpa using J
      have:=Inv.mid' J
      simpa using this
abbrev St (O:Type):=Addr→Option O
def sset {O:Type} (σ:St O) (p:Addr) (o:O):St O:=fun q=>if q=p then some o else σ q
def sdel {O:Type} (σ:St O) (p:Addr):St O:=fun q=>if q=p then none else σ q
variable {O:Type}
@[simp] theorem sset_same (σ:St O) (p:Addr) (o:O):sset σ p o p=some o:=by simp [sset]
theorem sset_ne {σ:St O} {p q:Addr} {o:O} (h:q ≠ p):sset σ p o q=σ q:=by simp [sset,h]
@[simp] theorem sset_sset (σ:St O) (p:Addr) (o o':O):sset (sset σ p o) p o'=sset σ p o':=by funext q; simp only [sset]; split <;> rfl
@[simp] theorem sset_sdel (σ:St O) (p:Addr) (o:O):sset (sdel σ p) p o=sset σ p o:=by funext q; simp only [sset,sdel]; split <;> rfl
theorem sset_eq {σ:St O} {p:Addr} {o:O} (h:σ p=some o):sset σ p o=σ:=by
  funext q; simp only [sset]
  split
  · rename_i e; subst e; exact h.symm
  · rfl
class Heads (rep:O→Addr→At):Prop where
  head: ∀ {o p h F M},(rep o p).P h F M→p.block ∈ F∧p.off=0∧p.spot=none
def hpA (rep:O→Addr→At) (σ:St O):At:=
  exA fun l:List (Addr × O)=>factA ((l.map (·.1)).Nodup∧ ∀ q,σ q=look l q) (bigA (l.map fun p=>rep p.2 p.1))
variable {rep:O→Addr→At} {σ:St O} {p:Addr} {o:O}
theorem hp_mk {l:List (Addr × O)} (hn:(l.map (·.1)).Nodup) (hl: ∀ q,σ q=look l q) (I:Inv h (bigA (l.map fun p=>rep p.2 p.1)::A)):Inv h (hpA rep σ::A):=
  Inv.exI (f:=fun l:List (Addr × O)=>factA ((l.map (·.1)).Nodup∧ ∀ q,σ q=look l q) (bigA (l.map fun p=>rep p.2 p.1))) l (I.factI ⟨hn,hl⟩)
theorem look_split {L:List (κ × V)} {k:κ} {v:V} (h:look L k=some v): ∃ X Y,L=X++(k,v)::Y∧k ∉ X.map (·.1):=by
  induction L with
  | nil=>simp [look] at h
  | cons q L ih =>
    obtain ⟨k',v'⟩:=q
    simp only [look] at h
    split at h
    · rename_i e; subst e; cases h; exact ⟨[],L,rfl,by simp⟩
    · rename_i e
      obtain ⟨X,Y,rfl,hX⟩:=ih h
      exact ⟨(k',v')::X,Y,rfl,by simp only [List.map_cons,List.mem_cons,not_or]; exact ⟨e,hX⟩⟩
theorem look_none {L:List (κ × V)} {k:κ}:look L k=none↔k ∉ L.map (·.1):=by
  induction L with
  | nil=>simp [look]
  | cons q L ih =>
    obtain ⟨k',v'⟩:=q
    simp only [look,List.map_cons,List.mem_cons,not_or]
    split
    · rename_i e; simp [e]
    · rename_i e; rw [ih]; exact ⟨fun h=>⟨e,h⟩,fun h=>h.2⟩
theorem look_append (X Y:List (κ × V)) (k:κ):look (X++Y) k=(look X k).or (look Y k):=by
  induction X with
  | nil=>simp [look]
  | cons q X ih =>
    obtain ⟨k',v'⟩:=q
    simp only [List.cons_append,look]
    split
    · rfl
    · exact ih
theorem Inv.take (I:Inv h (hpA rep σ::A)) (e:σ p=some o):Inv h (rep o p::hpA rep (sdel σ p)::A):=by
  obtain ⟨l,I⟩:=I.exE
  obtain ⟨⟨hn,hl⟩,I⟩:=I.factE
  have I:=I.bigE
  rw [hl] at e
  obtain ⟨X,Y,rfl,hX⟩:=look_split e
  have I:Inv h (X.map (fun p=>rep p.2 p.1)++rep o p::(Y.map (fun p=>rep p.2 p.1)++A)):=by simpa using I
  have I:=I.mid
  rw [List.map_append,List.map_cons,List.nodup_append] at hn
  obtain ⟨n1,n2,n3⟩:=hn
  simp only [List.nodup_cons] at n2
  refine I.under fun J=> ?_
  have J:=Inv.bigI (As:=(X++Y).map fun p=>rep p.2 p.1) (A:=A++[rep o p]) (by simpa using J)
  refine hp_mk (l:=X++Y) ?_ (fun q=> ?_) J
  · rw [List.map_append, List.nodup_append]
    exact ⟨n1,n2.2,fun x hx y hy=>n3 x hx y (List.mem_cons_of_mem _ hy)⟩
  · unfold sdel
    split
    · rename_i e2; subst e2
      rw [eq_comm,look_none,List.map_append,List.mem_append,not_or]
      exact ⟨hX,n2.1⟩
    · rename_i e2
      rw [hl,look_append,look_append]
      simp only [look,e2,if_false]
theorem Inv.put (I:Inv h (rep o p::hpA rep σ::A)) (e:σ p=none):Inv h (hpA rep (sset σ p o)::A):=by
  obtain ⟨l,I⟩:=I.swap.exE
  obtain ⟨⟨hn,hl⟩,I⟩:=I.factE
  have I:=I.swap
  have I:Inv h (rep o p::(l.map (fun p=>rep p.2 p.1)++A)):=I.under fun J=>by have:=J.bigE; simpa using this
  have hpl:p ∉ l.map (·.1):=by rw [← look_none,← hl,e]
  refine hp_mk (l:=(p,o)::l) (by simp only [List.map_cons,List.nodup_cons]; exact ⟨hpl,hn⟩) (fun q=> ?_) (Inv.bigI (As:=((p,o)::l).map fun p=>rep p.2 p.1) I)
  unfold sset
  simp only [look]
  split
  · rfl
  · exact hl q
theorem Inv.putB (I:Inv h (rep o p::hpA rep (sdel σ p)::A)):Inv h (hpA rep (sset σ p o)::A):=by
  have:=I.put (by simp [sdel])
  rwa [sset_sdel] at this
theorem Inv.putS (e:σ p=some o) (I:Inv h (rep o p::hpA rep (sdel σ p)::A)):Inv h (hpA rep σ::A):=by
  have:=I.putB
  rwa [sset_eq e] at this
theorem Inv.new [Heads rep] (I : Inv h (rep o p :: hpA rep σ :: A)) : σ p = none ∧ Inv h (hpA rep (sset σ p o) :: A) := by
  have e:σ p=none:=by
    cases hs:σ p with
    | none=>rfl
    | some o2 =>
      exfalso
      have J:=(I.swap.take hs)
      have J:=J.pull2
      obtain ⟨Fs,hf,hn⟩:=J
      match Fs,hf,hn with
      | F :: G :: Fs, hf, hn =>
        have h1:=Heads.head hf.1
        have h2:=Heads.head hf.2.1
        simp only [List.flatten_cons] at hn
        rw [List.nodup_append] at hn
        exact hn.2.2 _ h1.1 _ (List.mem_append.2 (.inl h2.1)) rfl
      | [_],hf,_=>exact hf.2.elim
  exact ⟨e,I.put e⟩
def leA (h0:Hp) (M0:List Nat):At:=
  ⟨fun h F M=>F=[]∧Le h0 M0 h M,fun _ hL ⟨e,h⟩=>⟨e,h.trans hL⟩,fun ⟨e,_⟩ b hb=>by subst e; cases hb⟩
theorem inv_start (h:Hp):Inv h [leA h []]:=⟨[[]],⟨⟨rfl,Le.refl _ _⟩,trivial⟩,by simp⟩
theorem inv_end {h0:Hp} (I:Inv h (leA h0 []::A)):Keep [] h0 h:=by
  obtain ⟨F,M,_,hL⟩:=I.get
  exact hL.1
def Lf {α:Type} (Φ:(α→Prop)→α→Prop) (v:α):Prop:= ∀ R:α→Prop,(∀ v,(∃ S:α→Prop,(∀ v,S v→R v)∧Φ S v)→R v)→R v
theorem Lf.rule {α:Type} {Φ:(α→Prop)→α→Prop} (Iv:α→Prop) (μ:α→Nat) (step: ∀ v,Iv v→Φ (fun v'=>Iv v'∧μ v'<μ v) v): ∀ v,Iv v→Lf Φ v:=by
  intro v hI R hR
  have key: ∀ n v,μ v=n→Iv v→R v:=by
    intro n
    induction n using Nat.strongRecOn with
    | _ n ih =>
      intro v hn hI
      exact hR v ⟨_,fun v' ⟨h1,h2⟩=>ih _ (hn ▸ h2) v' rfl h1,step v hI⟩
  exact key _ v rfl hI
theorem Lf.fold {α:Type} {Φ:(α→Prop)→α→Prop} {v:α} (H:Φ (Lf Φ) v):Lf Φ v:=fun R hR=>hR v ⟨_,fun v' h'=>h' R hR,H⟩
theorem Lf.ind {α:Type} {Φ:(α→Prop)→α→Prop} {v:α} (H:Lf Φ v) (R:α→Prop) (step: ∀ v S,(∀ v,S v→R v)→Φ S v→R v):R v:=
  H R fun v ⟨S,h1,h2⟩=>step v S h1 h2
theorem lfp_fold {Φ:LoopS→LoopS} {v:List Value} (H:Φ (Lfp Φ) v h):Lfp Φ v h:=fun R hR=>hR v h ⟨_,fun v' h' H'=>H' R hR,H⟩
end Go.Pu
namespace Go.Pu
open Go Go.Wc
variable {X:Type} {E:Rp X} {h h':Hp} {M M':List Nat} {vs ws:List Value} {l m:List X} {A:List At} {a a2:Option Addr} {c c2 T n:Nat} {a':At} {k:IntKind} {p:Addr} {ss:List Seg}
theorem ixI_a {nl:Nat} {l:List Int} {i:Int} {K':Int→Prop} {K:Addr→Prop} (hX:Rd (rI k) a' a nl c l) (I:Inv h (a'::A)) (H:ixP l i K')
    (kk: ∀ p x,EAdr a 1 i p→(0≤i∧i<l.length)→hcell h p=some (.int k x)→K' x→K p):ixW a nl i 1 K:=
  ix_r hX I Nat.one_ne_zero H fun p vs x he _ hc I hx=>by
    obtain ⟨_,_,_,e⟩:=I.get
    have e:vs=[.int k x]:=e
    subst e
    exact kk p x he (ixP_lt H) (hc 0 _ rfl) hx
theorem ixB_a {nl:Nat} {l:List Bool} {i:Int} {K':Bool→Prop} {K:Addr→Prop} (hX:Rd rB a' a nl c l) (I:Inv h (a'::A)) (H:ixP l i K')
    (kk: ∀ p x,EAdr a 1 i p→(0≤i∧i<l.length)→hcell h p=some (.bool x)→K' x→K p):ixW a nl i 1 K:=
  ix_r hX I Nat.one_ne_zero H fun p vs x he _ hc I hx=>by
    obtain ⟨_,_,_,e⟩:=I.get
    have e:vs=[.bool x]:=e
    subst e
    exact kk p x he (ixP_lt H) (hc 0 _ rfl) hx
theorem ixT_a {nl:Nat} {l:List ByteArray} {i:Int} {K':ByteArray→Prop} {K:Addr→Prop} (hX:Rd rT a' a nl c l) (I:Inv h (a'::A)) (H:ixP l i K')
    (kk: ∀ p x,EAdr a 1 i p→(0≤i∧i<l.length)→hcell h p=some (.string x)→K' x→K p):ixW a nl i 1 K:=
  ix_r hX I Nat.one_ne_zero H fun p vs x he _ hc I hx=>by
    obtain ⟨_,_,_,e⟩:=I.get
    have e:vs=[.string x]:=e
    subst e
    exact kk p x he (ixP_lt H) (hc 0 _ rfl) hx
theorem ixP_a {nl:Nat} {l:List (Option Addr)} {i:Int} {K':Option Addr→Prop} {K:Addr→Prop} (hX:Rd rP a' a nl c l) (I:Inv h (a'::A)) (H:ixP l i K')
    (kk: ∀ p x,EAdr a 1 i p→(0≤i∧i<l.length)→hcell h p=some (.pointer x)→K' x→K p):ixW a nl i 1 K:=
  ix_r hX I Nat.one_ne_zero H fun p vs x he _ hc I hx=>by
    obtain ⟨_,_,_,e⟩:=I.get
    have e:vs=[.pointer x]:=e
    subst e
    exact kk p x he (ixP_lt H) (hc 0 _ rfl) hx
theorem ixS_a {nl:Nat} {l:List (List X)} {i:Int} {K':List X→Prop} {K:Addr→Prop} (hX:Rd (rS E) a' a nl c l) (I:Inv h (a'::A)) (H:ixP l i K')
    (kk: ∀ p a1 c1 x,EAdr a 1 i p→(0≤i∧i<l.length)→hcell h p=some (.slice a1 x.length c1)→Inv h (roS E a1 x.length c1 x::a'::A)→K' x→K p):ixW a nl i 1 K:=
  ix_r hX I Nat.one_ne_zero H fun p vs x he _ hc I hx=>by
    obtain ⟨a1,c1,e,J⟩:=I.repS
    subst e
    exact kk p a1 c1 x he (ixP_lt H) (hc 0 _ rfl) J hx
theorem ixV_a {nl:Nat} {l:List (Vector Int n)} {i:Int} {K':Vector Int n→Prop} {K:Addr→Prop} (hX:Rd (rV k n) a' a nl c l) (I:Inv h (a'::A)) (hn:n ≠ 0) (H:ixP l i K')
    (kk: ∀ p x,EAdr a n i p→(0≤i∧i<l.length)→lfact k n x.toList p h→K' x→K p):ixW a nl i n K:=
  ix_r hX I hn H fun p vs x he _ hc I hx=>by
    obtain ⟨_,_,_,e⟩:=I.get
    have e:vs=lumpV k n x.toList:=e
    subst e
    exact kk p x he (ixP_lt H) (fun j hj=>hc j _ (lump_get k n _ j hj)) hx
def VAdr (p:Addr) (off:Nat) (i:Int) (q:Addr):Prop:=q=(p.add off).add (i.toNat*1)
theorem ix_vec {i:Int} {off j:Nat} {v:Vector Int n} {K':Int→Prop} {K:Addr→Prop} (I:Inv h (blk p T ss::A)) (hv:segAt ss j 0=some (off, .vec k n v)) (H:ixP v.toList i K')
    (kk: ∀ q x,VAdr p off i q→(0≤i∧i<n)→hcell h q=some (.int k x)→K' x→K q):ixW (some (p.add off)) n i 1 K:=by
  have hb:=ixP_lt H
  obtain ⟨h0,x,hx,hK⟩:=H
  simp only [Vector.length_toList] at hb
  refine ⟨_,rfl,hb,kk _ x rfl hb ?_ hK⟩
  have:=I.lump j off hv i.toNat (by omega)
  rw [Nat.mul_one,this]
  simp [List.getD_eq_getElem?_getD,hx]
theorem seg_set {ss:List Seg} {i off acc:Nat} {s t:Seg} (h:segAt ss i acc=some (off,s)) (hs:s.size=t.size):segSize ((ss.set i t).take i)=segSize (ss.take i)∧i<ss.length:=by
  obtain ⟨h1,_⟩:=segAt_split h
  have hil:i<ss.length:=by
    have:=congrArg List.length h1
    simp at this; omega
  refine ⟨?_,hil⟩
  rw [List.take_set,List.set_eq_of_length_le (by simp; omega)]
theorem vec_set {v:Vector Int n} {i:Nat} {x:Int} (hi:i<n):lumpV k n (v.setIfInBounds i x).toList=(lumpV k n v.toList).take i++ .int k x::(lumpV k n v.toList).drop (i+1):=by
  rw [lumpV_v,lumpV_v]
  have:(v.setIfInBounds i x).toList=v.toList.set i x:=by simp [Vector.toList]
  rw [this,List.set_eq_take_append_cons_drop,if_pos (by simpa using hi)]
  simp
theorem st_vec {i:Int} {off j:Nat} {v:Vector Int n} {x:Int} {q:Addr} {K:Hp→Prop} (I:Inv h (blk p T ss::A)) (hv:segAt ss j 0=some (off, .vec k n v)) (hq:VAdr p off i q) (hb:0≤i∧i<n)
    (kk: ∀ h',Inv h' (blk p T (ss.set j (.vec k n (v.setIfInBounds i.toNat x)))::A)→K h'):st h (q.add 0) (.int k x) K:=by
  have hi:i.toNat<n:=by omega
  obtain ⟨F,M,⟨hF,h0,h1,hb⟩,hFM,hn,hlt,H⟩:=I.turn
  obtain ⟨e1,e2⟩:=segAt_split hv
  obtain ⟨_,hil⟩:=seg_set (t:= .vec k n v) hv rfl
  subst hq
  rw [add_add,add_add,add_eq h0 h1,Nat.mul_one,Nat.add_zero]
  have hl:(lumpV k n v.toList).length=n:=lumpV_length _ _ _
  have hsp:lumpV k n v.toList=(lumpV k n v.toList).take i.toNat++(lumpV k n v.toList)[i.toNat]'(by omega)::(lumpV k n v.toList).drop (i.toNat+1):=by
    rw [← List.drop_eq_getElem_cons (by omega),List.take_append_drop]
  refine st_mid (T:=T) (z:=(0,0)) (pre:=segs (ss.take j)++(lumpV k n v.toList).take i.toNat) (post:=(lumpV k n v.toList).drop (i.toNat+1)++segs (ss.drop (j+1))) (u:=(lumpV k n v.toList)[i.toNat]'(by omega)) ?_
    (by rw [List.length_append,segs_length,List.length_take,hl]; omega) (.inr (Nat.zero_le _)) fun h' hb' k' hs'=> ?_
  · rw [hb]
    congr 2
    have:segs ss=segs (ss.take j)++(lumpV k n v.toList++segs (ss.drop (j+1))):=by
      conv=>lhs; rw [e1,segs_append]
      rfl
    rw [this]
    conv=>lhs; rw [hsp]
    simp only [List.append_assoc,List.cons_append]
  · refine kk h' (H h' [_] [[p.block]] (by rw [hF]; exact k') (fun b hb => .inl (by rw [hF]; simpa using hb)) (by simp) fun M' _ _ _ => ⟨⟨rfl, h0, h1, ?_⟩, trivial⟩)
    rw [hb',List.set_eq_take_append_cons_drop,if_pos hil,segs_append]
    simp only [segs,Seg.cells,vec_set hi,List.append_assoc,List.cons_append]
theorem rd_vec {off j:Nat} {v:Vector Int n} (hv:segAt ss j 0=some (off, .vec k n v)):Rd (rI k) (blk p T ss) (some (p.add off)) n n v.toList:=by
  intro h F M ⟨hF,h0,h1,hb⟩
  refine ⟨by simp, ?_⟩
  obtain ⟨e1,e2⟩:=segAt_split hv
  refine ⟨v.toList.map (Value.int k),⟨by simp, ?_⟩,by simp,els_I.2 rfl⟩
  rw [add_eq h0 h1]
  refine ⟨fun _=>rfl,fun i hi=> ?_⟩
  have hi:i<n:=by simpa using hi
  rw [hcell_of hb,e1,segs_append,e2,Nat.zero_add]
  simp only [segs,Seg.cells,List.getElem?_toArray]
  rw [List.getElem?_append_right (by rw [segs_length]; omega),segs_length,Nat.add_sub_cancel_left,List.getElem?_append_left (by rw [lumpV_length]; exact hi),lumpV_v]
  rw [List.getElem?_eq_getElem]
theorem sl_full {q:Addr} {K:Sl→Prop} (kk:K ⟨some q,n,n⟩):slW ⟨some q,n,n⟩ (0:Int) ((n:Nat):Int) 1 K:=by
  refine ⟨⟨by omega,by simp⟩,⟨Int.le_refl _,by omega⟩, ?_⟩
  have e:(if n=(0:Int).toNat then some q else (some q).map (·.add ((0:Int).toNat*1)))=some q:=by
    split
    · rfl
    · simp; exact if_pos rfl
  simp only [e]
  simpa using kk
theorem Inv.vecO {v:Vector Int n} (I:Inv h (blk p T [.vec k n v]::A)):Inv h (ownS (rI k) (some p) n n v.toList::A):=
  I.lit (by simp) fun M=>els_I.2 (by simp [segs,Seg.cells,lumpV_v])
def toV (n:Nat) (l:List Int):Vector Int n:=⟨(nrm n l).toArray,by simp [nrm_length]⟩
@[simp] theorem toV_toList (n:Nat) (l:List Int):(toV n l).toList=nrm n l:=by simp [toV,Vector.toList]
theorem toV_of {l:List Int} (h:l.length=n):(toV n l).toList=l:=by rw [toV_toList,nrm_eq h]
@[simp] theorem toV_v (v:Vector Int n):toV n v.toList=v:=by
  apply Vector.toArray_inj.1
  show (nrm n v.toList).toArray=v.toArray
  rw [nrm_v]; simp [Vector.toList]
def cpV (v:Vector Int n) (lo:Nat) (m:List Int):Vector Int n:=toV n (v.toList.take lo++cpL (v.toList.drop lo) m)
theorem cpV_toList (v:Vector Int n) (lo:Nat) (m:List Int):(cpV v lo m).toList=v.toList.take lo++cpL (v.toList.drop lo) m:=
  toV_of (by rw [List.length_append,cpL_length,← List.length_append,List.take_append_drop]; simp)
def VSl (p:Addr) (off n:Nat) (lo:Int) (a:Option Addr) (c:Nat):Prop:=a=resl (some (p.add off)) n 1 lo∧c=n - lo.toNat
theorem sl_vec {off j:Nat} {v:Vector Int n} {lo hi:Int} {K:Sl→Prop} (hv:segAt ss j 0=some (off, .vec k n v)) (H:SlOk v.toList lo hi)
    (kk: ∀ a1 c1,VSl p off n lo a1 c1→Rd (rI k) (blk p T ss) a1 (sub v.toList lo hi).length c1 (sub v.toList lo hi)→K ⟨a1,(sub v.toList lo hi).length,c1⟩):slW ⟨some (p.add off),n,n⟩ lo hi 1 K:=by
  have hsl:=sub_length H
  have hln:v.toList.length=n:=by simp
  obtain ⟨h0,h1,h2⟩:=H
  rw [hln] at h2
  refine ⟨⟨by omega,by simp only; omega⟩,⟨h0,h1⟩, ?_⟩
  rw [← hsl]
  refine kk _ _ ⟨rfl,rfl⟩ fun {h F M} hP=>⟨rfl, ?_⟩
  obtain ⟨_,ws,g1,g2,g3⟩:=rd_vec (p:=p) (T:=T) hv hP
  obtain ⟨k1,k2⟩:=slv_sub g1 h0 h1 (by omega) g2
  exact ⟨_,by rw [hsl]; exact k1,by rw [hsl]; exact k2,g3.sub (by omega) (by omega)⟩
theorem vec_cells {v:Vector Int n} {ws:List Int} {lo:Nat} (h:lo+ws.length≤n):
    lumpV k n (toV n (v.toList.take lo++(ws++v.toList.drop (lo+ws.length)))).toList=(lumpV k n v.toList).take lo++(ws.map (Value.int k)++(lumpV k n v.toList).drop (lo+ws.length)):=by
  rw [lumpV_v,toV_of (by simp; omega),lumpV_v]
  simp
theorem cp_vec {off j:Nat} {v:Vector Int n} {lo:Int} {a1:Option Addr} {c1 len nm:Nat} {m:List Int} {K:Int→Hp→Prop} (hv:segAt ss j 0=some (off, .vec k n v)) (hs:VSl p off n lo a1 c1) (h0:0≤lo∧lo≤n) (hlen:len=n - lo.toNat)
    (hX:Rd (rI k) a' a2 nm c2 m) (I:Inv h (blk p T ss::a'::A))
    (kk: ∀ h',Inv h' (blk p T (ss.set j (.vec k n (cpV v lo.toNat m)))::a'::A)→K (min nm len:Nat) h'):cpW 1 h ⟨a1,len,c1⟩ ⟨a2,nm,c2⟩ K:=by
  obtain rfl:=rd_len hX I.swap
  obtain ⟨F,M,⟨F1,F2,eF,⟨hF,p0,p1,hb⟩,h3⟩,hFM,hnd,hlt,H⟩:=I.sepI.turn
  subst eF
  obtain ⟨_,us,g1,g2,g3⟩:=hX h3
  obtain rfl:=els_I.1 g3
  obtain ⟨e1,e2⟩:=segAt_split hv
  obtain ⟨_,hil⟩:=seg_set (t:= .vec k n v) hv rfl
  obtain ⟨rfl,rfl⟩:=hs
  have hl:(lumpV k n v.toList).length=n:=lumpV_length _ _ _
  let w:=m.take (min m.length len)
  have hw:w.length=min m.length len:=by simp only [w,List.length_take]; omega
  have hbnd:lo.toNat+w.length≤n:=by omega
  refine ⟨w.map (Value.int k), ?_, ?_⟩
  · have := (g1.take (i := min m.length len) (Nat.min_le_left _ _) c2).cellsAt
    simpa [w,List.map_take] using this
  have ecp:cpV v lo.toNat m=toV n (v.toList.take lo.toNat++(w++v.toList.drop (lo.toNat+w.length))):=by
    unfold cpV cpL
    have hdl:(v.toList.drop lo.toNat).length=len:=by simp; omega
    rw [hdl,List.drop_drop]
    have q1:m.take len=w:=by
      simp only [w]; rw [List.take_eq_take_iff]; omega
    have q2:v.toList.drop (lo.toNat+m.length)=v.toList.drop (lo.toNat+w.length):=by
      rw [hw]
      rcases Nat.le_total m.length len with h | h
      · rw [Nat.min_eq_left h]
      · rw [Nat.min_eq_right h,List.drop_eq_nil_of_le (by simp; omega),List.drop_eq_nil_of_le (by simp; omega)]
    rw [q1,q2]
  have fin: ∀ h',h'[p.block]? =some (.cells (segs (ss.set j (.vec k n (cpV v lo.toNat m)))).toArray T (0,0))→Keep [p.block] h h'→K (min m.length len:Nat) h':=by
    intro h' hb' hk
    obtain ⟨d1,d2,d3⟩:=List.nodup_append.1 hnd
    have hF2:=a'.lt h3
    refine kk h' (H h' [_,a'] [F1,F2] (hk.mono fun b hb=> .inl (by rw [hF]; simp at hb ⊢; exact .inl hb)) (fun b hb=> .inl (by rw [flat2] at hb; exact hb)) (by rw [flat2]; exact hnd) fun M' hL _ _=>⟨⟨hF,p0,p1,hb'⟩,a'.mono (fun b hb=>hk.2 b (hF2 b hb) fun e=> ?_) hL h3,trivial⟩)
    simp at e; subst e
    exact d3 p.block (by rw [hF]; simp) p.block hb rfl
  have hcells:segs ss=segs (ss.take j)++(lumpV k n v.toList++segs (ss.drop (j+1))):=by
    conv=>lhs; rw [e1,segs_append]
    rfl
  have hsplit:lumpV k n v.toList=(lumpV k n v.toList).take lo.toNat++(((lumpV k n v.toList).drop lo.toNat).take w.length++(lumpV k n v.toList).drop (lo.toNat+w.length)):=by
    rw [← List.drop_drop,List.take_append_drop,List.take_append_drop]
  have hres:segs (ss.set j (.vec k n (cpV v lo.toNat m)))=segs (ss.take j)++((lumpV k n v.toList).take lo.toNat++(w.map (Value.int k)++(lumpV k n v.toList).drop (lo.toNat+w.length))++segs (ss.drop (j+1))):=by
    rw [List.set_eq_take_append_cons_drop,if_pos hil,segs_append]
    simp only [segs,Seg.cells]
    rw [ecp,vec_cells hbnd]
  have go:stAll h ⟨p.block,off+lo.toNat,none⟩ 0 (w.map (Value.int k)) fun h'=>K (min m.length len:Nat) h':=by
    refine stAll_mid (T:=T) (z:=(0,0)) (w.map (Value.int k)) (((lumpV k n v.toList).drop lo.toNat).take w.length) h (segs (ss.take j)++(lumpV k n v.toList).take lo.toNat) ((lumpV k n v.toList).drop (lo.toNat+w.length)++segs (ss.drop (j+1))) 0 ?_ (by simp [hl]; omega)
      (by rw [List.length_append,segs_length,List.length_take,hl]; omega) (.inl (Nat.zero_le _)) (fun x hx=>by simp only [List.mem_map] at hx; obtain ⟨y,_,rfl⟩:=hx; rfl) fun h' hb' hk _=>fin h' ?_ hk
    · rw [hb, hcells]; congr 2
      conv=>lhs; rw [hsplit]
      simp only [List.append_assoc]
    · rw [hb', hres]
      simp only [List.append_assoc]
  unfold resl
  by_cases hc:n=lo.toNat
  · rw [if_pos hc]
    have hw0:w=[]:=List.length_eq_zero_iff.1 (by omega)
    show stAll h (p.add off) 0 (w.map (Value.int k)) _
    rw [hw0] at hres ⊢
    refine fin h ?_ (Keep.refl _ _)
    rw [hb,hres,hcells]
    simp
  · rw [if_neg hc]
    show stAll h ((p.add off).add (lo.toNat*1)) 0 (w.map (Value.int k)) _
    rw [add_add,add_eq p0 p1,Nat.mul_one]
    exact go
theorem vsl_full {off:Nat}:VSl p off n 0 (some (p.add off)) n:=by
  refine ⟨?_,by simp⟩
  unfold resl
  split
  · rfl
  · simp; exact (if_pos rfl).symm
theorem Inv.repV (I:Inv h A) (v:Vector Int n):Inv h (repA (rV k n) (lumpV k n v.toList) v::A):=I.rep fun _ _=>rfl
def b2sP (l:List Int) (K:ByteArray→Prop):Prop:= ∃ b:ByteArray,bts b=l∧K b
theorem b2s_r {nl:Nat} {l:List Int} {K':ByteArray→Prop} {K:(Hp→Prop)→ByteArray→Prop} (hX:Rd (rI .u8) a' a nl c l) (I:Inv h (a'::A)) (H:b2sP l K') (kk: ∀ f b,K' b→K f b):b2s h ⟨a,nl,c⟩ K:=by
  obtain rfl:=rd_len hX I
  obtain ⟨b,rfl,HK⟩:=H
  obtain ⟨F,M,hP⟩:=I.get
  obtain ⟨_,vs,g1,g2,g3⟩:=hX hP
  obtain rfl:=els_I.1 g3
  have e:(bts b).map (Value.int .u8)=byteVals b:=by simp [bts,byteVals]
  unfold b2s
  cases a with
  | none =>
    have h2:=g1.2
    simp only at h2
    have hb:b= .empty:=by
      have:(bts b)=[]:=by simpa using h2
      cases b; simp [bts] at this; subst this; rfl
    subst hb
    exact kk _ _ HK
  | some x =>
    have h3:=g1.cellsAt
    rw [e,Nat.mul_one] at h3
    exact ⟨b,h3,kk _ _ HK⟩
theorem s2b_r {b:ByteArray} {K:Sl→Hp→Prop} (I:Inv h A) (kk: ∀ a1 c1 h',Inv h' (ownS (rI .u8) a1 (bts b).length c1 (bts b)::A)→K ⟨a1,(bts b).length,c1⟩ h'):s2b T h b K:=by
  intro c hc
  have e:(bts b).map (Value.int .u8)=byteVals b:=by simp [bts,byteVals]
  have:=kk (some ⟨h.size,0,none⟩) c (h.push (.cells (byteVals b++List.replicate (c - b.size) (Value.int .u8 0)).toArray T (c,c+1))) ?_
  · simpa using this
  · obtain ⟨F, M, hF, _, _, _, H⟩ := I.emp_add.turn
    have hF:F=[]:=hF
    subst hF
    refine H _ [_] [[h.size]] (Keep.push _ _ _) (fun b hb=> .inr (by simp at hb; omega)) (by simp) fun M' _ _ _=>⟨⟨rfl,T,byteVals b,⟨by simp [byteVals],by simpa using hc,rfl,rfl,[],List.replicate (c - b.size) (Value.int .u8 0),(c,c+1),by simp,rfl, ?_, .inr (by simp)⟩,els_I.2 e.symm⟩,trivial⟩
    simp [byteVals]; omega
theorem stW_r {s:ByteArray} {lo hi:Int} {K' K:ByteArray→Prop} (H:stW s lo hi K') (kk: ∀ x,K' x→K x):stW s lo hi K:=⟨H.1,H.2.1,kk _ H.2.2⟩
def allOne (vs:List Value):Bool:=vs.all fun v=>v.oneCell'
theorem all_one {vs:List Value} (h:allOne vs=true): ∀ v ∈ vs,v.oneCell'=true:=by simpa [allOne] using h
theorem allOne_append (u v:List Value):allOne (u++v)=(allOne u && allOne v):=by simp [allOne]
theorem allOne_lump (k:IntKind) (n:Nat) (l:List Int):allOne (lumpV k n l)=true:=by
  simp only [allOne,List.all_eq_true,lumpV,List.mem_map]
  rintro v ⟨x,_,rfl⟩
  rfl
theorem sle_nil:SlE E h M none 0 []:=⟨[],SlV.nil _ _,Nat.le_refl _,fun h=>absurd rfl h,rfl⟩
theorem drop_zero (u v:List Value):(u++v).drop 0=u++v:=rfl
theorem drop_app {i:Nat} (u v:List Value) (h:u.length=i):(u++v).drop i=v:=by subst h; simp
theorem lfact_of {l:List Int} {r:List Value} (hc: ∀ j v,vs[j]? =some v→hcell h (p.add j)=some v) (off:Nat) (e:vs.drop off=lumpV k n l++r):lfact k n l (p.add off) h:=by
  intro j hj
  rw [add_add]
  refine hc _ _ ?_
  rw [← List.getElem?_drop,e,List.getElem?_append_left (by rw [lumpV_length]; exact hj),lump_get k n l j hj]
theorem head_blk {F G:List Nat} {Gs:List (List Nat)} (e:F=(G::Gs).flatten) (H:(blk p T ss).P h G M):p.block ∈ F∧p.off=0∧p.spot=none:=by
  obtain ⟨h1,h2,h3,_⟩:=H
  exact ⟨by rw [e,h1]; simp,h2,h3⟩
end Go.Pu
namespace Go.Pu
open Go Go.Wc
variable {X:Type} {E:Rp X} {h h':Hp} {l m:List X} {A:List At} {a a2:Option Addr} {c c2 T n bytes:Nat} {a':At} {z:Value} {z0:X}
theorem and2_r {X X' Y Y':Prop} (H:X'∧Y') (h1:X'→X) (h2:Y'→Y):X∧Y:=⟨h1 H.1,h2 H.2⟩
theorem phi_one {S:Spec} {id:Nat} {caps args:List Value} {K:Value→Hp→Prop} (H:S (args++caps) h K):phi [(id,S)] (.func (.func id) #[] caps.toArray) args h K:=by
  have e:Specs.get [(id,S)] id=some S:=by simp [Specs.get]
  simp only [phi,e]
  simpa using H
theorem rd_none {nl:Nat} {l:List X} (hX:Rd E a' none nl c l) (I:Inv h (a'::A)) (hn:E.n ≠ 0):l=[]:=by
  obtain ⟨F,M,hP⟩:=I.get
  obtain ⟨_,vs,g1,g2,g3⟩:=hX hP
  have h2:=g1.2
  simp only at h2
  subst h2
  have:=g1.1
  have h3:0=l.length*E.n:=this
  rcases Nat.mul_eq_zero.1 h3.symm with e | e
  · exact List.length_eq_zero_iff.1 e
  · exact absurd e hn
def cloneP (l:List X) (Q:List X→Prop):Prop:=Bnd l.length∧Q l
theorem clone_r {nl:Nat} {Q':List X→Prop} {Q:Sl→Hp→Prop} (hX:Rd E a' a nl c l) (I:Inv h (a'::A)) (hn:E.n ≠ 0) (hz:z.cells.size=E.n) (hb:bytes ≠ 0) (hbb:bytes≤30000) (H:cloneP l Q')
    (k: ∀ r ra rc h',Inv h' (ownS E ra r.length rc r::a'::A)→Q' r→Q ⟨ra,r.length,rc⟩ h'):
    br (Option.isNone a) (Q ⟨none,0,0⟩ h) (alW h T [] fun p h2=>apW T E.n bytes z h2 ⟨some p,0,0⟩ ⟨a,nl,c⟩ fun s h4=>Q s h4):=by
  obtain ⟨H1,H2⟩:=H
  obtain rfl:=rd_len hX I
  cases a with
  | none =>
    rw [Option.isNone_none,br_true]
    obtain rfl:=rd_none hX I hn
    exact k [] none 0 h (I.nilO E) H2
  | some x =>
    rw [Option.isNone_some,br_false]
    refine al_r [] rfl I fun p h I=> ?_
    refine ap_r (l:=[]) hX (I.lit0 E) hz hb hbb (by simpa using H1) fun a1 c1 h I=> ?_
    exact k _ _ _ _ I H2
def deleteP (l:List X) (i j:Int) (Q:List X→Prop):Prop:=SlOk l i j∧Bnd l.length∧Q (l.take i.toNat++l.drop j.toNat)
theorem sub_take {l:List X} {i:Int}:sub l 0 i=l.take i.toNat:=by simp [sub]
theorem sub_drop {l:List X} {i:Int}:sub l i (l.length:Int)=l.drop i.toNat:=by simp [sub]
theorem move_own {i j : Nat} {K : Sl → Hp → Prop} (I : Inv h (ownS E a l.length c l :: A)) (hij : i ≤ j) (hj : j ≤ l.length) (hz : z.cells.size = E.n) (hb : bytes ≠ 0) (hbb : bytes ≤ 30000) (hl : Bnd l.length) (ha : a = none → l = [])
    (k: ∀ h' (vs:List Value) (tl:List X),tl.length=j - i→Inv h' (ownS E a (l.take i++l.drop j++tl).length c (l.take i++l.drop j++tl)::A)→K ⟨a,(l.take i++l.drop j).length,c⟩ h'):
    apW T E.n bytes z h ⟨a,(l.take i).length,c⟩ ⟨resl a c E.n (j:Int),(l.drop j).length,c - j⟩ K:=by
  obtain ⟨F,M,⟨_,T',vs,g1,g2⟩,hFM,hnd,hlt,H⟩:=I.turn
  have g1':=g1
  obtain ⟨o1,o2,o3⟩:=g1
  simp only at o1 o2 o3
  have hcap:l.length*E.n≤c*E.n:=Nat.mul_le_mul_right _ o2
  have him:i*E.n≤j*E.n:=Nat.mul_le_mul_right _ hij
  have hjm:j*E.n≤l.length*E.n:=Nat.mul_le_mul_right _ hj
  have hsub:=(slv_sub (lo:=(j:Int)) (hi:=(l.length:Int)) g1'.slv (by omega) (by omega) (by omega) o2).1
  simp only [Int.toNat_natCast] at hsub
  rw [List.take_of_length_le (by omega)] at hsub
  have hlen:(l.drop j).length=l.length - j:=by simp
  have hti:(l.take i).length=i:=by simp; omega
  rw [hlen,hti]
  refine ⟨_,hsub.cellsAt, ?_⟩
  unfold apV
  rw [if_pos (by simp only; omega)]
  cases a with
  | none =>
    obtain rfl:=ha rfl
    have hi0:i=0:=by simp at hj; omega
    subst hi0
    simp only [List.length_nil]
    have:=k h [] [] (by simp at hj; simp; omega) (by simpa using I)
    simpa using this
  | some x =>
    obtain ⟨b,o,sp⟩:=x
    obtain ⟨hf,hs,pre,post,fz,hbk,hp,hl2,hz2⟩:=o3
    simp only at hs hbk hp hf hz2; subst hs
    simp only [add_mk]
    have hvd:(vs.drop (j*E.n)).length=l.length*E.n - j*E.n:=by simp; omega
    have hone:=g2.one
    refine stAll_mid (T:=T') (z:=fz) (vs.drop (j*E.n)) ((vs.drop (i*E.n)).take (l.length*E.n - j*E.n)) h (pre++vs.take (i*E.n)) (vs.drop (i*E.n+(l.length*E.n - j*E.n))++post) 0 ?_
      (by simp; omega) (by simp; omega) (by omega) (fun v hv=>hone v (List.mem_of_mem_drop hv)) fun h' hb' k' hs'=> ?_
    · rw [hbk]; congr 2
      conv=>lhs; rw [← List.take_append_drop (i*E.n) vs,← List.take_append_drop (l.length*E.n - j*E.n) (vs.drop (i*E.n))]
      simp only [List.append_assoc,List.drop_drop]
    · have hfin : (l.take i ++ l.drop j).length = i + (l.length - j) := by rw [List.length_append, hti, hlen]
      have e0:vs.drop (i*E.n+(l.length*E.n - j*E.n))=vs.drop ((i+(l.length - j))*E.n):=by rw [Nat.add_mul,Nat.sub_mul]
      have key:=k h' [] (l.drop (i+(l.length - j))) (by simp; omega) (H h' [_] [F] (by rw [hf]; exact k') (fun b hb=> .inl (by simpa using hb)) (by simpa using hnd) fun M' hL _ _=>
        ⟨⟨rfl,T',vs.take (i*E.n)++vs.drop (j*E.n)++vs.drop ((i+(l.length - j))*E.n),⟨?_, ?_,hf,rfl,pre,post,fz, ?_,hp, ?_,hz2⟩, ?_⟩,trivial⟩)
      · rw [hfin] at key; exact key
      · simp only [List.length_append, List.length_take, List.length_drop]
        rw [Nat.add_mul,Nat.add_mul,Nat.sub_mul]
        have:(i+(l.length - j))*E.n=i*E.n+(l.length*E.n - j*E.n):=by rw [Nat.add_mul,Nat.sub_mul]
        have e3:(l.length - (i+(l.length - j)))*E.n=l.length*E.n - (i*E.n+(l.length*E.n - j*E.n)):=by rw [Nat.sub_mul,this]
        have e4:min i l.length=i:=by omega
        rw [e3,e4]
        omega
      · simp only [List.length_append,List.length_take,List.length_drop]; omega
      · rw [hb',← e0]; simp only [List.append_assoc]
      · simp only [List.length_append, List.length_take, List.length_drop]
        have:(i+(l.length - j))*E.n=i*E.n+(l.length*E.n - j*E.n):=by rw [Nat.add_mul,Nat.sub_mul]
        omega
      · have g3 := g2.mono hL
        exact ((g3.take_drop i (by omega)).1.append (g3.take_drop j hj).2).append (g3.take_drop _ (by omega)).2
theorem own_none {nl:Nat} {l:List X} (I:Inv h (ownS E none nl c l::A)):l=[]:=by
  obtain ⟨F,M,_,T',vs,g1,g2⟩:=I.get
  have h2:=g1.2
  simp only at h2
  exact List.length_eq_zero_iff.1 (by omega)
theorem clear_tail {tl : List X} {K : Hp → Prop} (I : Inv h (ownS E a (l ++ tl).length c (l ++ tl) :: A)) (hz : ∀ h M, E.P h M z.cells.toList z0) (k : ∀ h', Inv h' (ownS E a l.length c l :: A) → K h') :
    slW ⟨a,l.length,c⟩ (l.length:Int) ((l++tl).length:Int) E.n fun s=>clW z h s K:=by
  obtain ⟨F,M,⟨_,T',vs,g1,g2⟩,hFM,hnd,hlt,H⟩:=I.turn
  have o2:=g1.2.1
  simp only [List.length_append] at o2 ⊢
  refine ⟨⟨by omega,by simp only; omega⟩,⟨by omega,by omega⟩, ?_⟩
  simp only [Int.toNat_natCast,Nat.add_sub_cancel_left]
  have hrep: ∀ h M n,Els E h M (zeros z n) (List.replicate n z0):=fun h M n=>by rw [zeros_flat]; exact Els.repl (hz _ _) _
  obtain ⟨u,w,rfl,hu,hw⟩:=Els.split g2
  have hul:=hu.len; have hwl:=hw.len
  have hzl:(zeros z tl.length).length=tl.length*E.n:=by have:=(hrep h M tl.length).len; simpa using this
  have fin: ∀ h',Keep F h h'→(∀ b ∈ F,True)→Own h' ⟨a,l.length+tl.length,c⟩ T' E.n (u++zeros z tl.length) F→K h':=fun h' hk _ hO=>by
    refine k h' (H h' [_] [F] hk (fun b hb=> .inl (by simpa using hb)) (by simpa using hnd) fun M' hL _ _=>⟨⟨rfl,T',u, ?_,hu.mono hL⟩,trivial⟩)
    have:=hO.take (i:=l.length) (by simp)
    rwa [← hul,List.take_left] at this
  have hO:Own h ⟨a,l.length+tl.length,c⟩ T' E.n (u++w) F:=by simpa using g1
  unfold clW
  cases ha:a with
  | none =>
    subst ha
    have e:=own_none I
    obtain ⟨rfl,rfl⟩:l=[]∧tl=[]:=by simpa using e
    simp only [List.length_nil,Nat.sub_zero]
    have hK:=k h (by simpa using I)
    split
    · exact hK
    · rename_i e2; simp at e2
  | some x =>
    subst ha
    obtain ⟨o1,o2',o3⟩:=hO
    obtain ⟨b,o,sp⟩:=x
    obtain ⟨hf,hs,pre,post,fz,hbk,hp,hl2,hz2⟩:=o3
    simp only at hs hbk hp hf hz2 o1 o2' hl2; subst hs
    have hcap:(l.length+tl.length)*E.n≤c*E.n:=Nat.mul_le_mul_right _ o2'
    rw [Nat.add_mul] at hcap
    have go:stAll h ⟨b,o+l.length*E.n,none⟩ 0 (zeros z tl.length) K:=by
      refine stAll_mid (T:=T') (z:=fz) (zeros z tl.length) w h (pre++u) post 0 (by rw [hbk]; simp only [List.append_assoc]) (by rw [hzl,hwl]) (by simp; omega) (by rw [hzl]; omega) (hrep h M _).one fun h' hb' k' hs'=> ?_
      refine fin h' (by rw [hf]; exact k') (fun _ _=>trivial) ⟨by simp only [List.length_append,hul,hzl,Nat.add_mul],o2',hf,rfl,pre,post,fz,by rw [hb']; simp only [List.append_assoc],hp, ?_,hz2⟩
      simp only [List.length_append,hul,hzl,hwl] at hl2 ⊢
      exact hl2
    by_cases hc:c=l.length
    · have e2 : tl.length = 0 := by omega
      have e3:zeros z tl.length=[]:=List.length_eq_zero_iff.1 (by rw [hzl,e2]; simp)
      rw [if_pos hc]
      have hK:K h:=fin h (Keep.refl _ _) (fun _ _=>trivial) ⟨by simp only [List.length_append,hul,hzl,Nat.add_mul],o2',hf,rfl,pre,post,fz,by
        rw [hbk]; congr 2
        have:w=[]:=List.length_eq_zero_iff.1 (by rw [hwl,e2]; simp)
        rw [this,e3],hp,by simp only [List.length_append,hul,hzl,hwl] at hl2 ⊢; exact hl2,hz2⟩
      simp only [e3,stAll]
      exact hK
    · rw [if_neg hc]
      simp only [Option.map_some,add_mk]
      exact go
theorem delete_r {nl : Nat} {i j : Int} {Q' : List X → Prop} {Q : Sl → Hp → Prop} (I : Inv h (ownS E a nl c l :: A)) (hz : ∀ h M, E.P h M z.cells.toList z0) (hb : bytes ≠ 0) (hbb : bytes ≤ 30000) (H : deleteP l i j Q')
    (k: ∀ r ra rc h',Inv h' (ownS E ra r.length rc r::A)→Q' r→Q ⟨ra,r.length,rc⟩ h'):
    slX ⟨a, nl, c⟩ i j (nl : Int) E.n fun _ => br (i == j) (Q ⟨a, nl, c⟩ h)
      (slW ⟨a,nl,c⟩ (0:Int) i E.n fun s2=>slW ⟨a,nl,c⟩ j (nl:Int) E.n fun s3=>apW T E.n bytes z h s2 s3 fun s4 h5=>
        slW s4 (s4.len:Int) (nl:Int) E.n fun s6=>clW z h5 s6 fun h7=>Q s4 h7):=by
  obtain rfl:=own_len I
  obtain ⟨⟨h0,h1,h2⟩,hB,HQ⟩:=H
  obtain ⟨F,M,_,T',vs,g1,g2⟩:=I.get
  have o2:l.length≤c:=g1.2.1
  refine ⟨⟨by omega,by simp only; omega⟩,⟨by omega,by omega⟩,⟨h0,h1⟩, ?_⟩
  by_cases e:i=j
  · subst e
    rw [beq_self_eq_true,br_true]
    rw [List.take_append_drop] at HQ
    exact k _ _ _ _ I HQ
  · rw [show (i == j) = false by simpa using e, br_false]
    have hz':z.cells.size=E.n:=by have:=E.len (hz h []); simpa using this
    refine sl_step (l:=l) ⟨by omega,h0,by omega⟩ o2 ?_
    refine sl_step (l:=l) ⟨by omega,by omega,by omega⟩ o2 ?_
    rw [sub_take,sub_drop]
    have e1:resl a c E.n (0:Int)=a:=by
      unfold resl
      split
      · rfl
      · cases a with
        | none=>rfl
        | some x=>simp; exact if_pos rfl
    obtain ⟨ii,rfl⟩:=Int.eq_ofNat_of_zero_le h0
    obtain ⟨jj,rfl⟩:=Int.eq_ofNat_of_zero_le (Int.le_trans h0 h1)
    rw [e1]
    simp only [Int.toNat_natCast,Int.toNat_zero,Nat.sub_zero] at HQ ⊢
    refine move_own I (by omega) (by omega) hz' hb hbb hB (fun e=>by subst e; exact own_none I) fun h5 _ tl htl I=> ?_
    have hlen:l.length=(l.take ii++l.drop jj++tl).length:=by simp [htl]; omega
    rw [hlen]
    exact clear_tail I hz fun h7 I=>k _ _ _ _ I HQ
end Go.Pu
namespace Go.Tx
open Go Go.Wc
def slices_Sort_int_int (_ : Ids) (s : Sl) (h : Hp) (Q : Hp → Prop) : Prop :=
  (s.len=0∧Q h)∨
  ∃ (blk off : Nat) (zs : List Int) (pre post : List Value) (T : Nat) (z : Nat × Nat), s.a = some ⟨blk, off, none⟩ ∧ zs.length = s.len ∧ zs.length < 4611686018427387904 ∧
    h[blk]? =some (.cells (pre++zs.map (Value.int .i64)++post).toArray T z)∧pre.length=off∧(z.2≤off∨off+zs.length≤z.1)∧
    ∀ os:Array Obj,Q (h.setIfInBounds blk (.cells (pre++(zs.mergeSort fun x y=>decide (x≤y)).map (Value.int .i64)++post).toArray T z)++os)
def slices_Sort_int_int_S (ρ:Ids):Spec:=fun args h K=>
  (tS fun s=>tN (slices_Sort_int_int ρ s h (fun h=>K (.tuple #[]) h))) args
def sortedOut (h h':Hp) (s:Sl) (ks:List Int):Prop:=
  (s=⟨none,0,0⟩∧ks=[])∨
  ∃ (g cap T:Nat) (cur:Array Value),s=⟨some ⟨g,0,none⟩,ks.length,cap⟩∧h.size≤g∧h'[g]? =some (.cells cur T (0,0))∧ks.length≤cap∧cur.size=cap∧cur.toList.take ks.length=ks.map (Value.int .i64)
def slices_Sorted_int (gs : List Nat) (ρ : Ids) (f : Value) (h : Hp) (Q : Sl → Hp → Prop) : Prop :=
  ∃ (k b : Nat) (m : Option Nat), k ∈ gs ∧ f = .func (.func (ρ.G k)) #[] #[.pointer (some ⟨b, 0, none⟩)] ∧ hcell h ⟨b, 0, none⟩ = some (.map m) ∧
    match m with
    | none=> ∀ h':Hp,h.size≤h'.size→(∀ b,b<h.size→h'[b]? =h[b]?)→Q ⟨none,0,0⟩ h'
    | some r => ∃ (es : Array MapEntry) (ck : Nat) (L : List Int), h[r]? = some (.map es ck) ∧ MapKept.Stamped es ck ∧ L.length ≤ 4294967296 ∧ es.toList.map (·.key) = L.map (Value.int .i64) ∧ (∀ x ∈ L, IntKind.min .i64 ≤ x ∧ x ≤ IntKind.max .i64) ∧
      ∀ (h':Hp) (s:Sl),h.size≤h'.size→(∀ b,b<h.size→h'[b]? =h[b]?)→sortedOut h h' s (L.mergeSort fun x y=>decide (x≤y))→Q s h'
def slices_Sorted_int_S (gs:List Nat) (ρ:Ids):Spec:=fun args h K=>
  (tV fun f=>tN (slices_Sorted_int gs ρ f h (fun s h=>K (.slice s.a s.len s.cap) h))) args
end Go.Tx
namespace Go.Wc
theorem fin_and {a b:Nat} {φ ψ:Prop} (h:Nat.ble a b=true) (e:φ=ψ) (H:φ):a≤b∧ψ:=⟨ble_le h,cast e H⟩
end Go.Wc
namespace Go.Pu
open Go Go.Wc
variable {X:Type} {E:Rp X} {h:Hp} {A:List At} {a:Option Addr} {c:Nat} {l:List X} {z0:X} {z:Value}
theorem clear_cut {nl:Nat} {tl:List X} {K:Sl→Hp→Prop} (I:Inv h (ownS E a nl c (l++tl)::A)) (hz: ∀ h M,E.P h M z.cells.toList z0) (k: ∀ a1 c1 h',Inv h' (ownS E a1 l.length c1 l::A)→K ⟨a1,l.length,c1⟩ h'):
    slW ⟨a,nl,c⟩ (l.length:Int) (nl:Int) E.n fun s=>clW z h s fun h=>slW ⟨a,nl,c⟩ (0:Int) (l.length:Int) E.n fun s=>K s h:=by
  obtain rfl:=own_len I
  have key:=clear_tail (z:=z) (z0:=z0) (K:=fun h'=>slW ⟨a,(l++tl).length,c⟩ (0:Int) (l.length:Int) E.n fun s=>K s h') I hz fun h' I=>by
    have:=sl_own (lo:=0) (hi:=l.length) (K:=fun s=>K s h') I ⟨by omega,by omega,by omega⟩ fun a1 c1 I=>by
      rw [sub_take,Int.toNat_natCast,List.take_length] at I ⊢
      exact k a1 c1 h' I
    exact this
  exact key
def delP {Z:Type} (φ:X→Z→(Bool→Z→Prop)→Prop):List X→List X→Z→(List X→Z→Prop)→Prop
  | [],acc,z,Q=>Q acc z
  | x::l,acc,z,Q=>φ x z fun b z=>delP φ l (if b then acc else acc++[x]) z Q
def sortP (l:List Int) (Q:List Int→Prop):Prop:=Bnd l.length∧Q (l.mergeSort fun x y=>decide (x≤y))
theorem flatI {k:IntKind} {vs:List Value} {l:List Int} {M:List Nat} (H:Els (rI k) h M vs l):vs=l.map (Value.int k):=by
  induction l generalizing vs with
  | nil=>exact H
  | cons x l ih =>
    obtain ⟨u,w,e,h1,h2⟩:=H
    have h1:u=[.int k x]:=h1
    rw [e,h1,ih h2]; rfl
theorem elsI {k:IntKind} {l:List Int} {M:List Nat}:Els (rI k) h M (l.map (Value.int k)) l:=by
  induction l with
  | nil=>rfl
  | cons x l ih=>exact ⟨[.int k x],_,rfl,rfl,ih⟩
theorem sort_r {ρ:Ids} {nl:Nat} {l:List Int} {Q':List Int→Prop} {Q:Hp→Prop} (I:Inv h (ownS (rI .i64) a nl c l::A)) (H:sortP l Q')
    (k: ∀ r h',Inv h' (ownS (rI .i64) a nl c r::A)→Q' r→Q h'):Tx.slices_Sort_int_int ρ ⟨a,nl,c⟩ h Q:=by
  obtain rfl:=own_len I
  obtain ⟨hB,H⟩:=H
  unfold Bnd at hB
  obtain ⟨F,M,⟨_,T,vs,g1,g2⟩,hFM,hnd,hlt,HH⟩:=I.turn
  have ev:=flatI g2
  subst ev
  have g1':=g1
  obtain ⟨o1,o2,o3⟩:=g1
  cases a with
  | none =>
    have hz:l=[]:=by simp only at o2 o3; exact List.length_eq_zero_iff.1 (by omega)
    subst hz
    exact .inl ⟨rfl,k _ _ I (by simpa using H)⟩
  | some x =>
    obtain ⟨b,o,sp⟩:=x
    obtain ⟨hf,hs,pre,post,z,hb,hp,hc,hz⟩:=o3
    simp only at hs hb hp hf hz hc o1 o2; subst hs
    have hlb:b<h.size:=by
      rcases Nat.lt_or_ge b h.size with hh | hh
      · exact hh
      · rw [Array.getElem?_eq_none (by omega)] at hb; cases hb
    refine .inr ⟨b,o,l,pre,post,T,z,rfl,rfl,by omega,hb,hp,by omega,fun os=> ?_⟩
    have hkeep:Keep F h (h.setIfInBounds b (.cells (pre++(l.mergeSort fun x y=>decide (x≤y)).map (Value.int .i64)++post).toArray T z)++os):=by
      rw [hf]
      refine ⟨by simp,fun c hcl hcn=> ?_⟩
      have hne:b ≠ c:=fun e=>hcn (by simp [e])
      rw [Array.getElem?_append_left (by simpa using hcl),Array.getElem?_setIfInBounds_ne hne]
    refine k _ _ (HH _ [_] [F] hkeep (fun b hb=> .inl (by simpa using hb)) (by simpa using hnd) fun M' hL _ _=>⟨⟨by simp,T,(l.mergeSort fun x y=>decide (x≤y)).map (Value.int .i64),⟨by simp [rI],by simpa using o2, ?_⟩,elsI⟩,trivial⟩) H
    refine ⟨hf,rfl,pre,post,z, ?_,hp,by simp at hc ⊢; omega,by simpa using hz⟩
    simp only
    rw [Array.getElem?_append_left (by simpa using hlb),Array.getElem?_setIfInBounds_self_of_lt hlb]
end Go.Pu
namespace Go.Pu
open Go Go.Wc
variable {κ V:Type} [DecidableEq κ]
theorem mem_look {L:List (κ × V)} {k:κ}:look L k ≠ none↔k ∈ L.map (·.1):=by
  induction L with
  | nil=>simp [look]
  | cons x L ih =>
    obtain ⟨a,v⟩:=x
    simp only [look,List.map_cons,List.mem_cons]
    by_cases h:k=a
    · simp [h]
    · simp [h,ih]
theorem look_upd (L : List (κ × V)) (k : κ) (v : V) (j : κ) : look (upd L k v) j = if j = k then some v else look L j := by
  induction L with
  | nil=>simp only [upd,look]
  | cons x L ih =>
    obtain ⟨a,w⟩:=x
    simp only [upd]
    by_cases h:k=a
    · subst h
      rw [if_pos rfl]
      simp only [look]
      split <;> rfl
    · rw [if_neg h]
      simp only [look,ih]
      by_cases h2:j=a
      · subst h2
        rw [if_pos rfl,if_pos rfl,if_neg (fun e=>h e.symm)]
      · rw [if_neg h2,if_neg h2]
theorem look_del {L : List (κ × V)} (hn : (L.map (·.1)).Nodup) (k j : κ) : look (del L k) j = if j = k then none else look L j := by
  induction L with
  | nil=>simp [del,look]
  | cons x L ih =>
    obtain ⟨a,w⟩:=x
    rw [List.map_cons,List.nodup_cons] at hn
    simp only [del]
    by_cases h:k=a
    · subst h
      rw [if_pos rfl]
      simp only [look]
      by_cases h2:j=k
      · subst h2
        rw [if_pos rfl]
        cases e:look L j with
        | none=>rfl
        | some v=>exact absurd (mem_look.1 (by rw [e]; simp)) hn.1
      · rw [if_neg h2,if_neg h2]
    · rw [if_neg h]
      simp only [look,ih hn.2]
      by_cases h2:j=a
      · subst h2
        rw [if_pos rfl,if_pos rfl,if_neg (fun e=>h e.symm)]
      · rw [if_neg h2,if_neg h2]
theorem keys_upd (L:List (κ × V)) (k:κ) (v:V):(upd L k v).map (·.1)=if k ∈ L.map (·.1) then L.map (·.1) else L.map (·.1)++[k]:=by
  induction L with
  | nil=>simp [upd]
  | cons x L ih =>
    obtain ⟨a,w⟩:=x
    simp only [upd]
    by_cases h:k=a
    · subst h; simp
    · rw [if_neg h]
      simp only [List.map_cons,List.mem_cons,h,false_or,ih]
      split <;> simp
theorem nodup_upd {L:List (κ × V)} (hn:(L.map (·.1)).Nodup) (k:κ) (v:V):((upd L k v).map (·.1)).Nodup:=by
  rw [keys_upd]
  split
  · exact hn
  · rename_i h
    rw [List.nodup_append]
    refine ⟨hn,by simp,fun a ha b hb=> ?_⟩
    rw [List.mem_singleton] at hb
    subst hb
    intro e; subst e; exact h ha
theorem keys_del (L:List (κ × V)) (k:κ):(del L k).map (·.1)=(L.map (·.1)).erase k:=by
  induction L with
  | nil=>simp [del]
  | cons x L ih =>
    obtain ⟨a,w⟩:=x
    simp only [del]
    by_cases h:k=a
    · subst h; simp
    · rw [if_neg h]
      simp only [List.map_cons,ih]
      rw [List.erase_cons_tail (by simp; exact fun e=>h e.symm)]
theorem ixP_of {X:Type} {l:List X} {i:Int} {x:X} {K:X→Prop} (h0:0≤i) (hx:l[i.toNat]? =some x) (H:K x):ixP l i K:=⟨h0,x,hx,H⟩
theorem ixP_nat {X:Type} {l:List X} {i:Nat} {x:X} {K:X→Prop} (hx:l[i]? =some x) (H:K x):ixP l (i:Int) K:=⟨by omega,x,by rw [Int.toNat_natCast]; exact hx,H⟩
theorem mid_get {X:Type} {acc rest:List X} {x:X}:(acc++x::rest)[acc.length]? =some x:=by rw [List.getElem?_append_right (Nat.le_refl _)]; simp
theorem ixP_keep {X:Type} {l:List X} {i:Int} {K:X→Prop} (H:ixP l i K):ixP l i (fun x=>l[i.toNat]? =some x∧K x):=by
  obtain ⟨h0,x,hx,hK⟩:=H
  exact ⟨h0,x,hx,hx,hK⟩
theorem el_keep {X:Type} {E:Rp X} {h:Hp} {A:List At} {a':At} {a:Option Addr} {n c:Nat} {l:List X} {i:Int} {p:Addr} {x:X} {v:Value} (hX:Rd E a' a n c l) (I:Inv h (a'::A)) (hE:E.n=1) (he:EAdr a 1 i p) (hb:0≤i∧i<l.length) (hg:l[i.toNat]? =some x)
    (hv: ∀ M vs,E.P h M vs x→vs=[v]):hcell h p=some v:=by
  have H:ixP l i (fun y=>y=x):=⟨hb.1,x,hg,rfl⟩
  have key:=ix_r (K:=fun q=>hcell h q=some v) hX I (by omega) H fun q vs y hq _ hc J hy=>by
    subst hy
    obtain ⟨F,M,_,e⟩:=J.get
    have e:=hv _ _ e
    subst e
    have:=hc 0 _ rfl
    obtain ⟨z,hz,rfl⟩:=hq
    simpa [Addr.add] using this
  obtain ⟨y,rfl,rfl⟩:=he
  rw [hE] at key
  obtain ⟨w,hw,_,key⟩:=key
  cases hw
  exact key
def Seg.okB:Seg→Bool
  | .one v=>v.oneCell'
  | .vec _ _ _=>true
theorem all_segs {ss : List Seg} (h : ss.all Seg.okB = true) : ∀ v ∈ segs ss, v.oneCell' = true := by
  induction ss with
  | nil=>intro v hv; simp [segs] at hv
  | cons s ss ih =>
    rw [List.all_cons,Bool.and_eq_true] at h
    intro v hv
    have e:segs (s::ss)=s.cells++segs ss:=by simp [segs]
    rw [e,List.mem_append] at hv
    rcases hv with hv | hv
    · cases s with
      | one w =>
        have:v=w:=by simpa [Seg.cells] using hv
        subst this; exact h.1
      | vec k n w =>
        have:=allOne_lump k n w.toList
        exact all_one this v (by simpa [Seg.cells] using hv)
    · exact ih h.2 v hv
theorem rd_sub {X:Type} {E:Rp X} {a':At} {a:Option Addr} {nl n2 c:Nat} {l:List X} {lo hi:Int} (hX:Rd E a' a nl c l) (H:SlOk l lo hi) (hn:n2=(sub l lo hi).length):Rd E a' (resl a c E.n lo) n2 (c - lo.toNat) (sub l lo hi):=by
  intro h F M hP
  refine ⟨hn, ?_⟩
  obtain ⟨_,vs,g1,g2,g3⟩:=hX hP
  obtain ⟨h0,h1,h2⟩:=H
  obtain ⟨k1,k2⟩:=slv_sub g1 h0 h1 h2 g2
  have hsl:=sub_length (l:=l) ⟨h0,h1,h2⟩
  exact ⟨_,by rw [hsl]; exact k1,by rw [hsl]; exact k2,g3.sub (by omega) (by omega)⟩
theorem slw_own {X:Type} {E:Rp X} {h:Hp} {A:List At} {a:Option Addr} {nl c:Nat} {l:List X} {lo hi:Int} {n:Nat} {K:Sl→Prop} (I:Inv h (ownS E a nl c l::A)) (H:SlOk l lo hi) (k:K ⟨resl a c n lo,(sub l lo hi).length,c - lo.toNat⟩):slW ⟨a,nl,c⟩ lo hi n K:=by
  obtain rfl:=own_len I
  obtain ⟨F,M,_,T,vs,g1,g2⟩:=I.get
  exact sl_step H g1.2.1 k
def dedT:Int→List Int→List Int
  | _,[]=>[]
  | y,x::l=>if x=y then dedT x l else x::dedT x l
def dedA:List Int→List Int
  | []=>[]
  | x::l=>x::dedT x l
def compactP (l:List Int) (Q:List Int→Prop):Prop:=Bnd l.length∧Q (dedA l)
end Go.Pu
namespace Go.Pu
open Go Go.Wc
variable {X:Type} {E:Rp X} {h:Hp} {A:List At} {a a2:Option Addr} {c c2:Nat} {l m:List X} {a':At}
def cpP (l:List X) (i n:Nat) (m:List X):List X:=l.take i++m.take (min m.length n)++l.drop (i+min m.length n)
theorem cpP_length {i n:Nat} (h:i+n≤l.length):(cpP l i n m).length=l.length:=by
  simp only [cpP,List.length_append,List.length_take,List.length_drop]; omega
theorem cpp_r {nl nm n2 i : Nat} {K : Int → Hp → Prop} (hX : Rd E a' a2 nm c2 m) (I : Inv h (ownS E a nl c l :: a' :: A)) (hi : i + n2 ≤ l.length) (k : ∀ h', Inv h' (ownS E a nl c (cpP l i n2 m) :: a' :: A) → K (min nm n2 : Nat) h') :
    cpW E.n h ⟨resl a c E.n (i:Int),n2,c - i⟩ ⟨a2,nm,c2⟩ K:=by
  obtain rfl:=rd_len hX I.swap
  obtain rfl:=own_len I
  have I0:=I
  obtain ⟨F,M,⟨F1,F2,eF,⟨_,T',vs,h1,h2⟩,h3⟩,hFM,hnd,hlt,H⟩:=I.sepI.turn
  subst eF
  obtain ⟨_,ws,g1,g2,g3⟩:=hX h3
  have hwl:=g3.len
  have hvl:=h2.len
  generalize hq:min m.length n2=q at*
  have hqm:q≤m.length:=by omega
  have hmin:q*E.n≤ws.length:=by rw [hwl]; exact Nat.mul_le_mul_right _ hqm
  have hqn:i+q≤l.length:=by omega
  have hc:l.length≤c:=h1.2.1
  have e1: ∀ h':Hp,Keep F1 h h'→Own h' ⟨a,l.length,c⟩ T' E.n (vs.take (i*E.n)++ws.take (q*E.n)++vs.drop ((i+q)*E.n)) F1→K (q:Nat) h':=fun h' hk hO=>by
    obtain ⟨d1,d2,d3⟩:=List.nodup_append.1 hnd
    have hF2:=a'.lt h3
    have el:(cpP l i n2 m).length=l.length:=cpP_length hi
    refine k h' (H h' [_,a'] [F1,F2] (hk.mono fun b hb=> .inl (by simp [hb])) (fun b hb=> .inl (by rw [flat2] at hb; exact hb)) (by rw [flat2]; exact hnd) fun M' hL _ _=>⟨⟨el.symm,T',_,by rw [el]; exact hO, ?_⟩,a'.mono (fun b hb=>hk.2 b (hF2 b hb) fun e=>d3 b e b hb rfl) hL h3,trivial⟩)
    unfold cpP
    rw [hq]
    exact ((((h2.mono hL).take_drop i (by omega)).1).append ((g3.mono hL).take_drop q hqm).1).append ((h2.mono hL).take_drop (i+q) hqn).2
  unfold cpW
  dsimp only
  rw [hq]
  refine ⟨ws.take (q*E.n), ?_, ?_⟩
  · have := (g1.take (i := q) hqm c2).cellsAt
    exact this
  · have hwq : (ws.take (q * E.n)).length = q * E.n := by rw [List.length_take]; omega
    cases a with
    | none =>
      have e:=own_none I0
      subst e
      have q0:q=0:=by simp at hqn; omega
      have i0:i=0:=by simp at hqn; omega
      have hv0:vs=[]:=List.length_eq_zero_iff.1 (by simpa using hvl)
      have hK:K (q:Nat) h:=e1 h (Keep.refl _ _) (by subst q0 i0 hv0; simpa using h1)
      have:resl none c E.n (i:Int)=none:=by unfold resl; split <;> rfl
      rw [this]
      exact hK
    | some x =>
      obtain ⟨o1,o2',o3⟩:=h1
      obtain ⟨b,o,sp⟩:=x
      obtain ⟨hf,hs,pre,post,fz,hbk,hp,hl2,hz2⟩:=o3
      simp only at hs hbk hp hf hz2 o1 o2' hl2; subst hs
      have hcn:l.length*E.n≤c*E.n:=Nat.mul_le_mul_right _ hc
      have hin:(i+q)*E.n≤l.length*E.n:=Nat.mul_le_mul_right _ hqn
      have him:(i+q)*E.n=i*E.n+q*E.n:=Nat.add_mul _ _ _
      by_cases hci:c=i
      · have q0 : q = 0 := by omega
        have e2:ws.take (q*E.n)=[]:=by rw [q0]; simp
        have hK:K (q:Nat) h:=e1 h (Keep.refl _ _) ⟨by simp only [List.length_append,List.length_take,List.length_drop]; omega,o2',hf,rfl,pre,post,fz,by
          rw [hbk,e2,q0]; congr 2; simp,hp,by simp only [List.length_append,List.length_take,List.length_drop]; omega,hz2⟩
        have:resl (some ⟨b,o,none⟩) c E.n (i:Int)=some ⟨b,o,none⟩:=by unfold resl; rw [if_pos (by simpa using hci)]
        rw [this,e2]
        exact hK
      · have : resl (some ⟨b, o, none⟩) c E.n (i : Int) = some ⟨b, o + i * E.n, none⟩ := by unfold resl; rw [if_neg (by simpa using hci)]; simp
        rw [this]
        refine stAll_mid (T:=T') (z:=fz) (ws.take (q*E.n)) ((vs.drop (i*E.n)).take (q*E.n)) h (pre++vs.take (i*E.n)) (vs.drop ((i+q)*E.n)++post) 0 ?_ (by simp only [List.length_take,List.length_drop]; omega) (by simp only [List.length_append,List.length_take]; omega) (by rw [hwq]; omega) (fun v hv=>g3.one v (List.mem_of_mem_take hv)) fun h' hb' k' hs'=> ?_
        · rw [hbk]
          congr 2
          simp only [List.append_assoc]
          rw [him,← List.drop_drop]
          conv=>lhs; rw [← List.take_append_drop (i*E.n) vs,← List.take_append_drop (q*E.n) (vs.drop (i*E.n))]
          simp only [List.append_assoc]
        · refine e1 h' (by rw [hf]; exact k') ⟨by simp only [List.length_append,List.length_take,List.length_drop]; omega,o2',hf,rfl,pre,post,fz,by rw [hb']; simp only [List.append_assoc],hp,by simp only [List.length_append,List.length_take,List.length_drop]; omega,hz2⟩
theorem sl_part {nl n:Nat} {lo hi:Int} {K:Sl→Prop} (I:Inv h (ownS E a nl c l::A)) (H:SlOk l lo hi) (k:K ⟨resl a c n (lo.toNat:Int),(sub l lo hi).length,c - lo.toNat⟩):slW ⟨a,nl,c⟩ lo hi n K:=
  slw_own I H (by
    have e:((lo.toNat:Nat):Int)=lo:=by obtain ⟨h0,h1,h2⟩:=H; omega
    rw [e] at k; exact k)
theorem part_ok {lo hi:Int} (H:SlOk l lo hi):lo.toNat+(sub l lo hi).length≤l.length:=by
  have:=sub_length H
  obtain ⟨h0,h1,h2⟩:=H
  omega
theorem rd_part {lo hi:Int} {nl:Nat} (hX:Rd E a' a nl c l) (H:SlOk l lo hi):Rd E a' (resl a c E.n (lo.toNat:Int)) (sub l lo hi).length (c - lo.toNat) (sub l lo hi):=by
  have e:((lo.toNat:Nat):Int)=lo:=by obtain ⟨h0,h1,h2⟩:=H; omega
  rw [e]
  intro h F M
  exact rd_sub hX H rfl
theorem Inv.relenO {nl:Nat} (I:Inv h (ownS E a nl c l::A)):Inv h (ownS E a l.length c l::A):=by
  obtain rfl:=own_len I
  exact I
theorem Inv.relenR {nl:Nat} (I:Inv h (roS E a nl c l::A)):Inv h (roS E a l.length c l::A):=by
  obtain rfl:=ro_len I
  exact I
theorem all_app {u w:List Value} (h1: ∀ v ∈ u,v.oneCell'=true) (h2: ∀ v ∈ w,v.oneCell'=true): ∀ v ∈ u++w,v.oneCell'=true:=by
  intro v hv
  rcases List.mem_append.1 hv with hv | hv
  · exact h1 v hv
  · exact h2 v hv
end Go.Pu
namespace Go.Pu
open Go Go.Wc
def bytesL (l:List Int):Prop:= ∀ x ∈ l,0≤x∧x<256
def leB:Nat→Int→List Int
  | 0,_=>[]
  | k+1,n=>(n % 256)::leB k (n / 256)
def valB:List Int→Int
  | []=>0
  | x::l=>x+256*valB l
theorem wrap_u8 (n:Int):IntKind.wrap .u8 n=n % 256:=by
  simp [IntKind.wrap,IntKind.signed,IntKind.bits]
theorem wrap_u64 {n:Int} (h0:0≤n) (h1:n<18446744073709551616):IntKind.wrap .u64 n=n:=by
  simp only [IntKind.wrap,IntKind.signed,IntKind.bits,Bool.false_and,Bool.false_eq_true,if_false]
  exact Int.emod_eq_of_lt h0 (by simpa using h1)
theorem leB_length (k:Nat) (n:Int):(leB k n).length=k:=by
  induction k generalizing n with
  | zero=>rfl
  | succ k ih=>simp [leB,ih]
theorem leB_bytes (k:Nat) (n:Int):bytesL (leB k n):=by
  induction k generalizing n with
  | zero=>intro x hx; cases hx
  | succ k ih =>
    intro x hx
    rcases List.mem_cons.1 hx with rfl | hx
    · omega
    · exact ih _ x hx
theorem leB_snoc (k:Nat) (n:Int):leB (k+1) n=leB k n++[n / 256 ^ k % 256]:=by
  induction k generalizing n with
  | zero=>simp [leB]
  | succ k ih =>
    rw [leB,ih]
    simp only [leB,List.cons_append]
    congr 3
    rw [Int.ediv_ediv_of_nonneg (by omega),Int.pow_succ,Int.mul_comm]
theorem valB_range {l:List Int} (h:bytesL l):0≤valB l∧valB l<256 ^ l.length:=by
  induction l with
  | nil=>simp [valB]
  | cons x l ih =>
    have hx:=h x (by simp)
    have:=ih fun y hy=>h y (by simp [hy])
    simp only [valB,List.length_cons]
    rw [Int.pow_succ]
    omega
theorem leB_val {l:List Int} (h:bytesL l):leB l.length (valB l)=l:=by
  induction l with
  | nil=>rfl
  | cons x l ih =>
    have hx:=h x (by simp)
    have:=ih fun y hy=>h y (by simp [hy])
    simp only [valB,List.length_cons,leB]
    have e1:(x+256*valB l) % 256=x:=by omega
    have e2:(x+256*valB l) / 256=valB l:=by omega
    rw [e1,e2,this]
theorem valB_le {k:Nat} {n:Int} (h0:0≤n) (h1:n<256 ^ k):valB (leB k n)=n:=by
  induction k generalizing n with
  | zero=>simp at h1; simp [leB,valB]; omega
  | succ k ih =>
    simp only [leB,valB]
    rw [Int.pow_succ] at h1
    rw [ih (by omega) (by omega)]
    omega
theorem valB_append (l m:List Int):valB (l++m)=valB l+256 ^ l.length*valB m:=by
  induction l with
  | nil=>simp [valB]
  | cons x l ih =>
    simp only [List.cons_append,valB,ih,List.length_cons]
    rw [Int.pow_succ,Int.mul_add,Int.mul_comm (256 ^ l.length) 256,Int.mul_assoc]
    omega
theorem or_shift {n x:Int} {i:Nat} (hn:0≤n∧n<256 ^ i) (hx:0≤x∧x<256) (hi:i<8):
    ((BitVec.ofInt 64 n ||| BitVec.ofInt 64 (x*256 ^ i)).toNat:Int)=n+x*256 ^ i:=by
  obtain ⟨a,rfl⟩: ∃ a:Nat,n=a:=⟨n.toNat,by omega⟩
  obtain ⟨b,rfl⟩: ∃ b:Nat,x=b:=⟨x.toNat,by omega⟩
  have c:((256 ^ i:Nat):Int)=(256:Int) ^ i:=by rw [Int.natCast_pow]; rfl
  have ha:a<256 ^ i:=by have:=hn.2; rw [← c] at this; omega
  have hb:b<256:=by omega
  have hp:(256:Nat) ^ i*256≤2 ^ 64:=by
    have:(256:Nat) ^ i≤256 ^ 7:=Nat.pow_le_pow_right (by omega) (by omega)
    have:(256:Nat) ^ 7*256=2 ^ 64:=by decide
    omega
  have hpos:0<(256:Nat) ^ i:=Nat.pow_pos (by omega)
  have hbi:b*256 ^ i<2 ^ 64:=by
    have:b*256 ^ i<256*256 ^ i:=Nat.mul_lt_mul_of_pos_right hb hpos
    rw [Nat.mul_comm] at hp
    omega
  have ha2:a<2 ^ 64:=by omega
  have e1:BitVec.ofInt 64 (a:Int)=BitVec.ofNat 64 a:=by simp
  have e2:BitVec.ofInt 64 ((b:Int)*256 ^ i)=BitVec.ofNat 64 (b*256 ^ i):=by
    rw [← BitVec.ofInt_natCast,← c,Int.natCast_mul]
  rw [e1,e2,BitVec.toNat_or,BitVec.toNat_ofNat,BitVec.toNat_ofNat,Nat.mod_eq_of_lt ha2,Nat.mod_eq_of_lt hbi]
  have e3:(256:Nat) ^ i=2 ^ (8*i):=by rw [Nat.pow_mul]
  have e4:a ||| b*256 ^ i=a+b*256 ^ i:=by
    rw [Nat.or_comm,e3,Nat.mul_comm,← Nat.two_pow_add_eq_or_of_lt (by rw [← e3]; exact ha)]
    omega
  rw [e4,Int.natCast_add,Int.natCast_mul,c]
theorem pow256_le {k m:Nat} (h:k≤m):(256:Int) ^ k≤256 ^ m:=by
  have h1:(256:Nat) ^ k≤256 ^ m:=Nat.pow_le_pow_right (by omega) h
  have c: ∀ i:Nat,((256 ^ i:Nat):Int)=(256:Int) ^ i:=fun i=>by rw [Int.natCast_pow]; rfl
  rw [← c,← c]; omega
end Go.Pu
namespace Go.Pu
open Go Go.Wc
variable {X V:Type} {E:Rp X} {h:Hp} {A:List At} {a' b':At} {a a2:Option Addr} {c c2 T:Nat} {l m:List X} {p:Addr} {ss:List Seg}
theorem rd_cap {n c1:Nat} (hX:Rd E a' a n c l) (hc:l.length≤c1):Rd E a' a n c1 l:=fun hP=>by
  obtain ⟨e,vs,g1,g2,g3⟩:=hX hP
  exact ⟨e,vs,⟨g1.1,g1.2⟩,hc,g3⟩
theorem rd_empty {n c0 c1:Nat} {a1:Option Addr} {l0:List X} (hX:Rd E a' a n c0 l0):Rd E a' a1 0 c1 ([]:List X):=fun hP=>by
  refine ⟨rfl,[],⟨by simp, ?_⟩,Nat.zero_le _,rfl⟩
  cases a1 with
  | none=>rfl
  | some x=>exact ⟨fun h=>absurd rfl h,fun i hi=>absurd hi (by simp)⟩
theorem slx_rd {nl:Nat} {lo hi:Int} {K:Sl→Prop} (hX:Rd E a' a nl c l) (I:Inv h (a'::A)) (H:SlOk l lo hi)
    (k: ∀ a1,Rd E a' a1 (sub l lo hi).length (sub l lo hi).length (sub l lo hi)→K ⟨a1,(sub l lo hi).length,(sub l lo hi).length⟩):slX ⟨a,nl,c⟩ lo hi hi E.n K:=by
  obtain rfl:=rd_len hX I
  obtain ⟨F,M,hP⟩:=I.get
  obtain ⟨_,vs,g1,g2,g3⟩:=hX hP
  have hsl:=sub_length H
  obtain ⟨h0,h1,h2⟩:=H
  refine ⟨⟨by omega,by simp only; omega⟩,⟨by omega,Int.le_refl _⟩,⟨h0,h1⟩, ?_⟩
  rw [← hsl]
  refine k _ ?_
  by_cases e:hi.toNat=lo.toNat
  · have e2 : sub l lo hi = [] := List.length_eq_zero_iff.1 (by omega)
    rw [e2]
    exact rd_empty hX
  · rw [if_neg e]
    have:Rd E a' (resl a c E.n lo) (sub l lo hi).length (c - lo.toNat) (sub l lo hi):=rd_sub hX (n2:=(sub l lo hi).length) ⟨h0,h1,h2⟩ rfl
    unfold resl at this
    rw [if_neg (by omega)] at this
    exact rd_cap this (Nat.le_refl _)
theorem apF_r {bytes nl nm:Nat} {z:Value} {K:Sl→Hp→Prop} (hX:Rd E a' a nl nl l) (hY:Rd E b' a2 nm c2 m) (I:Inv h (a'::b'::A)) (hm:m ≠ []) (hz:z.cells.size=E.n) (hb:bytes ≠ 0) (hbb:bytes≤30000) (hl:Bnd (l.length+m.length))
    (k: ∀ a1 c1 h',Inv h' (ownS E a1 (l++m).length c1 (l++m)::a'::b'::A)→K ⟨a1,(l++m).length,c1⟩ h'):apW T E.n bytes z h ⟨a,nl,nl⟩ ⟨a2,nm,c2⟩ K:=by
  obtain rfl:=rd_len hX I
  obtain rfl:=rd_len hY I.pull1
  have I2:=(I.sepI).emp_add
  obtain ⟨F,M,⟨F1,F2,eF,hF1,F3,F4,eF2,h3,h4⟩,hFM,hnd,hlt,H⟩:=I2.sepI.turn
  obtain ⟨_,vs,g1,g2,g3⟩:=hX h3
  obtain ⟨_,ws,k1,k2,k3⟩:=hY h4
  have hpos:0<m.length:=List.length_pos_iff.2 hm
  refine ⟨ws,k1.cellsAt, ?_⟩
  unfold apV
  rw [if_neg (by simp only; omega)]
  refine ⟨hb,Nat.le_trans (Nat.mul_le_mul_right _ (nextcap _ _ (by simp only; omega))) (ap_bound hl hbb),vs,g1.cellsAt,fun cc hc=> ?_⟩
  have e:(l.length+m.length)=(l++m).length:=by simp
  simp only at hc
  have hlen:=g3.len
  have hlen2:=k3.len
  have hzl:(zeros z (cc - (l.length+m.length))).length=cc*E.n - (l.length+m.length)*E.n:=by rw [zeros_len,hz,Nat.sub_mul]
  have hmul:(l.length+m.length)*E.n≤cc*E.n:=Nat.mul_le_mul_right _ hc
  show K ⟨_,l.length+m.length,cc⟩ _
  have hF1:F1=[]:=hF1
  subst hF1
  simp only [List.nil_append] at eF
  subst eF eF2
  have J:=H (h.push (.cells (vs++ws++zeros z (cc - (l.length+m.length))).toArray T (0,0))) [ownS E (some ⟨h.size,0,none⟩) (l++m).length cc (l++m),a',b'] [[h.size],F3,F4] (Keep.push _ _ _)
    (fun b hb=>by
      simp only [List.flatten_cons,List.flatten_nil,List.append_nil,List.mem_append,List.mem_singleton] at hb
      rcases hb with rfl | hb
      · exact .inr (Nat.le_refl _)
      · exact .inl (List.mem_append.2 hb))
    (by
      simp only [List.flatten_cons,List.flatten_nil,List.append_nil]
      refine List.nodup_append.2 ⟨by simp,hnd,fun x hx y hy e=> ?_⟩
      simp at hx; subst hx e
      have:=hlt _ (hFM _ hy)
      omega)
    fun M' hL _ _=>⟨⟨rfl,T,vs++ws,⟨?_,by simpa using hc,rfl,rfl,[],zeros z (cc - (l.length+m.length)),(0,0),by simp,rfl, ?_, .inl (Nat.le_refl _)⟩,(g3.mono hL).append (k3.mono hL)⟩,a'.mono (fun b hb=>(Keep.push [] h _).2 b (a'.lt h3 b hb) (by simp)) hL h3,b'.mono (fun b hb=>(Keep.push [] h _).2 b (b'.lt h4 b hb) (by simp)) hL h4,trivial⟩
  · have := k _ _ _ J
    rw [e]
    rw [← e] at this ⊢
    exact this
  · simp [hlen,hlen2,Nat.add_mul]
  · simp only [List.length_append, hzl, hlen, hlen2]
    rw [Nat.add_mul] at hmul ⊢
    omega
theorem cp_self {k:IntKind} {n:Nat} {off j:Nat} {v:Vector Int n} {lo:Int} {a1:Option Addr} {c1 len nm:Nat} {m:List Int} {K:Int→Hp→Prop} (hv:segAt ss j 0=some (off, .vec k n v)) (hs:VSl p off n lo a1 c1) (h0:0≤lo∧lo≤n) (hlen:len=n - lo.toNat)
    (hX:Rd (rI k) (blk p T ss) a2 nm c2 m) (I:Inv h (blk p T ss::A))
    (kk: ∀ h',Inv h' (blk p T (ss.set j (.vec k n (cpV v lo.toNat m)))::A)→K (min nm len:Nat) h'):cpW 1 h ⟨a1,len,c1⟩ ⟨a2,nm,c2⟩ K:=by
  obtain rfl:=rd_len hX I
  obtain ⟨F,M,⟨hF,p0,p1,hb⟩,hFM,hnd,hlt,H⟩:=I.turn
  obtain ⟨_,us,g1,g2,g3⟩:=hX (h:=h) (F:=F) (M:=M) ⟨hF,p0,p1,hb⟩
  obtain rfl:=els_I.1 g3
  obtain ⟨e1,e2⟩:=segAt_split hv
  obtain ⟨_,hil⟩:=seg_set (t:= .vec k n v) hv rfl
  obtain ⟨rfl,rfl⟩:=hs
  have hl:(lumpV k n v.toList).length=n:=lumpV_length _ _ _
  let w:=m.take (min m.length len)
  have hw:w.length=min m.length len:=by simp only [w,List.length_take]; omega
  have hbnd:lo.toNat+w.length≤n:=by omega
  refine ⟨w.map (Value.int k), ?_, ?_⟩
  · have := (g1.take (i := min m.length len) (Nat.min_le_left _ _) c2).cellsAt
    simpa [w,List.map_take] using this
  have ecp:cpV v lo.toNat m=toV n (v.toList.take lo.toNat++(w++v.toList.drop (lo.toNat+w.length))):=by
    unfold cpV cpL
    have hdl:(v.toList.drop lo.toNat).length=len:=by simp; omega
    rw [hdl,List.drop_drop]
    have q1:m.take len=w:=by
      simp only [w]; rw [List.take_eq_take_iff]; omega
    have q2:v.toList.drop (lo.toNat+m.length)=v.toList.drop (lo.toNat+w.length):=by
      rw [hw]
      rcases Nat.le_total m.length len with h | h
      · rw [Nat.min_eq_left h]
      · rw [Nat.min_eq_right h,List.drop_eq_nil_of_le (by simp; omega),List.drop_eq_nil_of_le (by simp; omega)]
    rw [q1,q2]
  have fin: ∀ h',h'[p.block]? =some (.cells (segs (ss.set j (.vec k n (cpV v lo.toNat m)))).toArray T (0,0))→Keep [p.block] h h'→K (min m.length len:Nat) h':=by
    intro h' hb' hk
    exact kk h' (H h' [_] [F] (hk.mono fun b hb=> .inl (by rw [hF]; exact hb)) (fun b hb=> .inl (by simpa using hb)) (by simpa using hnd) fun M' hL _ _=>⟨⟨hF,p0,p1,hb'⟩,trivial⟩)
  have hcells:segs ss=segs (ss.take j)++(lumpV k n v.toList++segs (ss.drop (j+1))):=by
    conv=>lhs; rw [e1,segs_append]
    rfl
  have hsplit:lumpV k n v.toList=(lumpV k n v.toList).take lo.toNat++(((lumpV k n v.toList).drop lo.toNat).take w.length++(lumpV k n v.toList).drop (lo.toNat+w.length)):=by
    rw [← List.drop_drop,List.take_append_drop,List.take_append_drop]
  have hres:segs (ss.set j (.vec k n (cpV v lo.toNat m)))=segs (ss.take j)++((lumpV k n v.toList).take lo.toNat++(w.map (Value.int k)++(lumpV k n v.toList).drop (lo.toNat+w.length))++segs (ss.drop (j+1))):=by
    rw [List.set_eq_take_append_cons_drop,if_pos hil,segs_append]
    simp only [segs,Seg.cells]
    rw [ecp,vec_cells hbnd]
  have go:stAll h ⟨p.block,off+lo.toNat,none⟩ 0 (w.map (Value.int k)) fun h'=>K (min m.length len:Nat) h':=by
    refine stAll_mid (T:=T) (z:=(0,0)) (w.map (Value.int k)) (((lumpV k n v.toList).drop lo.toNat).take w.length) h (segs (ss.take j)++(lumpV k n v.toList).take lo.toNat) ((lumpV k n v.toList).drop (lo.toNat+w.length)++segs (ss.drop (j+1))) 0 ?_ (by simp [hl]; omega)
      (by rw [List.length_append,segs_length,List.length_take,hl]; omega) (.inl (Nat.zero_le _)) (fun x hx=>by simp only [List.mem_map] at hx; obtain ⟨y,_,rfl⟩:=hx; rfl) fun h' hb' hk _=>fin h' ?_ hk
    · rw [hb, hcells]; congr 2
      conv=>lhs; rw [hsplit]
      simp only [List.append_assoc]
    · rw [hb', hres]
      simp only [List.append_assoc]
  unfold resl
  by_cases hc:n=lo.toNat
  · rw [if_pos hc]
    have hw0:w=[]:=List.length_eq_zero_iff.1 (by omega)
    show stAll h (p.add off) 0 (w.map (Value.int k)) _
    rw [hw0] at hres ⊢
    refine fin h ?_ (Keep.refl _ _)
    rw [hb,hres,hcells]
    simp
  · rw [if_neg hc]
    show stAll h ((p.add off).add (lo.toNat*1)) 0 (w.map (Value.int k)) _
    rw [add_add,add_eq p0 p1,Nat.mul_one]
    exact go
theorem vel_keep {k:IntKind} {n:Nat} {i:Int} {off j:Nat} {v:Vector Int n} {q:Addr} {x:Int} (I:Inv h (blk p T ss::A)) (hv:segAt ss j 0=some (off, .vec k n v)) (hq:VAdr p off i q) (hb:0≤i∧i<n) (hg:v.toList[i.toNat]? =some x):
    hcell h q=some (.int k x):=by
  have key:ixW (some (p.add off)) n i 1 fun q'=>q'=q→hcell h q'=some (.int k x):=by
    refine ix_vec (K':=fun y=>y=x) I hv ⟨hb.1,x,hg,rfl⟩ fun q' y hq' hb' hc e he=> ?_
    subst e; exact hc
  obtain ⟨a,e1,e2,e3⟩:=key
  cases e1
  unfold VAdr at hq
  subst hq
  exact e3 rfl
theorem withB {φ:Prop} (b:Bool) (k: ∀ v,v=b→φ):φ:=k b rfl
def sortK (L:Option (List (Int × V))):List Int:=((L.getD []).map (·.1)).mergeSort fun x y=>decide (x≤y)
def sortKP (L:Option (List (Int × V))) (Q:List Int→Prop):Prop:=((L.getD []).length≤4294967296∧ ∀ x ∈ (L.getD []).map (·.1),IntKind.min .i64≤x∧x≤IntKind.max .i64)∧Q (sortK L)
theorem all2_keys {Ev:Rp V} {agg:Bool} {M:List Nat}: ∀ {es:List MapEntry} {L:List (Int × V)},All2 (entR (kI .i64) Ev agg h M) es L→es.map (·.key)=(L.map (·.1)).map (Value.int .i64)
  | _,_, .nil=>rfl
  | e :: es, (k, x) :: L, .cons ⟨h1, _⟩ h2 => by
    simp only [List.map_cons,all2_keys h2]
    rw [h1]
theorem sortK_r {ρ : Ids} {gs : List Nat} {k : Nat} {Ev : Rp V} {agg : Bool} {mm : Option Nat} {o : Option (Array MapEntry × Nat)} {L : Option (List (Int × V))} {Q' : List Int → Prop} {Q : Sl → Hp → Prop} (hk : k ∈ gs)
    (I:Inv h (blk p T [.one (.map mm)]::mapX (kI .i64) Ev agg mm o L::A)) (H:sortKP L Q')
    (kk: ∀ (r:List Int) (ra:Option Addr) (rc:Nat) (h':Hp),Inv h' (ownS (rI .i64) ra r.length rc r::blk p T [.one (.map mm)]::mapX (kI .i64) Ev agg mm o L::A)→Q' r→Q ⟨ra,r.length,rc⟩ h'):
    Tx.slices_Sorted_int gs ρ (.func (.func (ρ.G k)) #[] #[.pointer (some p)]) h Q:=by
  have I2:=(I.sepI).emp_add
  obtain ⟨F,M,⟨F1,F2,eF,hF1,F3,F4,eF2,h3,h4⟩,hFM,hnd,hlt,HH⟩:=I2.sepI.turn
  have hF1:F1=[]:=hF1
  subst hF1
  simp only [List.nil_append] at eF
  subst eF eF2
  have h3':=h3
  obtain ⟨b1,b2,b3,b4⟩:=h3
  have ep:p=⟨p.block,0,none⟩:=by obtain ⟨x,y,z⟩:=p; simp only at b2 b3; subst b2 b3; rfl
  have hcell0:hcell h ⟨p.block,0,none⟩=some (.map mm):=by unfold hcell; rw [b4]; rfl
  have fin: ∀ (h':Hp) (ks:List Int) (s:Sl),h.size≤h'.size→(∀ b,b<h.size→h'[b]? =h[b]?)→Tx.sortedOut h h' s ks→Q' ks→Q s h':=by
    intro h' ks s hs hb ho hQ
    have hkeep: ∀ F,Keep F h h':=fun F=>⟨hs,fun b hb' _=>hb b hb'⟩
    rcases ho with ⟨rfl,rfl⟩ | ⟨g,cap,T',cur,rfl,hg,hgc,c1,c2,c3⟩
    · refine kk [] none 0 h' ?_ hQ
      refine HH h' [ownS (rI .i64) none ([]:List Int).length 0 [],blk p T [.one (.map mm)],mapX (kI .i64) Ev agg mm o L] [[],F3,F4] (hkeep _) (fun b hb=> .inl (by simpa using hb)) (by simpa using hnd) fun M' hL _ _=>
        ⟨⟨rfl,0,[],Own.nil _ _ _,rfl⟩,At.mono _ (fun b hb'=>hb b (At.lt _ h3' b hb')) hL h3',At.mono _ (fun b hb'=>hb b (At.lt _ h4 b hb')) hL h4,trivial⟩
    · refine kk ks (some ⟨g, 0, none⟩) cap h' ?_ hQ
      refine HH h' [ownS (rI .i64) (some ⟨g,0,none⟩) ks.length cap ks,blk p T [.one (.map mm)],mapX (kI .i64) Ev agg mm o L] [[g],F3,F4] (hkeep _) (fun b hb=> ?_) ?_ fun M' hL _ _=>
        ⟨⟨rfl,T',ks.map (Value.int .i64),⟨by simp [rI],c1,rfl,rfl,[],cur.toList.drop ks.length,(0,0), ?_,rfl, ?_, .inl (Nat.le_refl _)⟩,els_I.2 rfl⟩,At.mono _ (fun b hb'=>hb b (At.lt _ h3' b hb')) hL h3',At.mono _ (fun b hb'=>hb b (At.lt _ h4 b hb')) hL h4,trivial⟩
      · simp only [List.flatten_cons, List.flatten_nil, List.append_nil, List.mem_append, List.mem_singleton] at hb
        rcases hb with rfl | hb
        · exact .inr hg
        · exact .inl (List.mem_append.2 hb)
      · simp only [List.flatten_cons, List.flatten_nil, List.append_nil]
        refine List.nodup_append.2 ⟨by simp,hnd,fun x hx y hy e=> ?_⟩
        simp at hx; subst hx e
        have:=hlt _ (hFM _ hy)
        omega
      · rw [hgc,List.nil_append,← c3,List.take_append_drop]
      · have : cur.toList.length = cap := by simpa using c2
        simp only [List.length_map,List.length_drop,this,rI]
        omega
  obtain ⟨⟨hlen,hwf⟩,HQ⟩:=H
  refine ⟨k,p.block,mm,hk,by rw [← ep],hcell0, ?_⟩
  match mm,o,L,h4,HQ,hlen,hwf,fin with
  | none, none, none, _, HQ, _, _, fin =>
    intro h' hs hb
    exact fin h' [] _ hs hb (.inl ⟨rfl,rfl⟩) (by simpa [sortK] using HQ)
  | some r, some (es, ck), some L, ⟨q1, q2, q3, q4⟩, HQ, hlen, hwf, fin =>
    refine ⟨es,ck,L.map (·.1),q2,q4,by simpa using hlen,all2_keys q3,hwf,fun h' s hs hb ho=>fin h' _ s hs hb ho (show Q' ((L.map (·.1)).mergeSort fun x y=>decide (x≤y)) from HQ)⟩
  | none,none,some _,hm,_,_,_,_=>exact (hm:False).elim
  | none,some _,none,hm,_,_,_,_=>exact (hm:False).elim
  | none,some _,some _,hm,_,_,_,_=>exact (hm:False).elim
  | some _,none,none,hm,_,_,_,_=>exact (hm:False).elim
  | some _,none,some _,hm,_,_,_,_=>exact (hm:False).elim
  | some _,some _,none,hm,_,_,_,_=>exact (hm:False).elim
end Go.Pu
