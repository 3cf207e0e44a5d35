import Derived.Test.YtpjehkdneiclnaaCnPu0
set_option linter.unusedSimpArgs false
set_option linter.unusedVariables false
namespace Go.Pu
open Go Go.Wc
structure Rp (X:Type) where
  n:Nat
  P:Hp→List Nat→List Value→X→Prop
  len: ∀ {h M vs x},P h M vs x→vs.length=n
  one: ∀ {h M vs x},P h M vs x→ ∀ v ∈ vs,v.oneCell'=true
  mono: ∀ {h M h' M' vs x},Le h M h' M'→P h M vs x→P h' M' vs x
variable {X:Type} {E:Rp X} {h h':Hp} {M M':List Nat} {vs ws:List Value} {l m:List X}
def Els (E:Rp X) (h:Hp) (M:List Nat):List Value→List X→Prop
  | vs,[]=>vs=[]
  | vs,x::l=> ∃ u w,vs=u++w∧E.P h M u x∧Els E h M w l
theorem Els.len: ∀ {l:List X} {vs:List Value},Els E h M vs l→vs.length=l.length*E.n
  | [], vs, H => by
    have H:vs=[]:=H
    subst H; simp
  | x :: l, vs, ⟨u, w, e, h1, h2⟩ => by
    subst e
    simp only [List.length_append,E.len h1,Els.len h2,List.length_cons,Nat.add_mul,Nat.one_mul,Nat.add_comm]
theorem Els.one: ∀ {l:List X} {vs:List Value},Els E h M vs l→ ∀ v ∈ vs,v.oneCell'=true
  | [], vs, H, v, hv => by
    have H:vs=[]:=H
    subst H; cases hv
  | x :: l, vs, ⟨u, w, e, h1, h2⟩, v, hv => by
    subst e
    exact (List.mem_append.1 hv).elim (E.one h1 v) (Els.one h2 v)
theorem Els.mono (hL:Le h M h' M'): ∀ {l:List X} {vs:List Value},Els E h M vs l→Els E h' M' vs l
  | [],_,H=>H
  | _::_,_,⟨u,w,e,h1,h2⟩=>⟨u,w,e,E.mono hL h1,Els.mono hL h2⟩
theorem Els.append: ∀ {l:List X} {vs:List Value},Els E h M vs l→Els E h M ws m→Els E h M (vs++ws) (l++m)
  | [], vs, H, H2 => by
    have H:vs=[]:=H
    subst H; exact H2
  | _::_,_,⟨u,w,e,h1,h2⟩,H2=>⟨u,w++ws,by rw [e,List.append_assoc],h1,Els.append h2 H2⟩
theorem Els.split: ∀ {l:List X} {vs:List Value},Els E h M vs (l++m)→ ∃ u w,vs=u++w∧Els E h M u l∧Els E h M w m
  | [],vs,H=>⟨[],vs,rfl,rfl,H⟩
  | _ :: _, _, ⟨u, w, e, h1, h2⟩ => by
    obtain ⟨u',w',rfl,h3,h4⟩:=Els.split h2
    exact ⟨u++u',w',by rw [e,List.append_assoc],⟨u,u',rfl,h1,h3⟩,h4⟩
theorem Els.take_drop (H:Els E h M vs l) (i:Nat) (hi:i≤l.length):Els E h M (vs.take (i*E.n)) (l.take i)∧Els E h M (vs.drop (i*E.n)) (l.drop i):=by
  rw [← List.take_append_drop i l] at H
  obtain ⟨u,w,rfl,h1,h2⟩:=Els.split H
  have hl:=h1.len
  rw [List.length_take,Nat.min_eq_left hi] at hl
  rw [← hl,List.take_left,List.drop_left]
  exact ⟨h1,h2⟩
theorem Els.sub (H:Els E h M vs l) {i j:Nat} (hij:i≤j) (hj:j≤l.length):Els E h M ((vs.take (j*E.n)).drop (i*E.n)) ((l.take j).drop i):=
  ((H.take_drop j hj).1.take_drop i (by simp; omega)).2
theorem Els.get {i:Nat} {x:X} (H:Els E h M vs l) (hx:l[i]? =some x): ∃ u,E.P h M u x∧ ∀ j,j<u.length→vs[i*E.n+j]? =u[j]? :=by
  have hi:i<l.length:=by
    rw [List.getElem?_eq_some_iff] at hx; exact hx.1
  obtain ⟨_,h2⟩:=H.take_drop i (Nat.le_of_lt hi)
  have e:l.drop i=x::l.drop (i+1):=by
    rw [List.getElem?_eq_some_iff] at hx
    obtain ⟨_,rfl⟩:=hx
    exact List.drop_eq_getElem_cons hi
  rw [e] at h2
  obtain ⟨u,w,e2,h3,_⟩:=h2
  refine ⟨u,h3,fun j hj=> ?_⟩
  rw [← List.getElem?_drop,e2,List.getElem?_append_left hj]
theorem Els.set {i:Nat} {x:X} {u:List Value} (H:Els E h M vs l) (hi:i<l.length) (hu:E.P h M u x):
    Els E h M (vs.take (i*E.n)++(u++vs.drop ((i+1)*E.n))) (l.set i x):=by
  rw [List.set_eq_take_append_cons_drop,if_pos hi]
  exact (H.take_drop i (Nat.le_of_lt hi)).1.append ⟨u,_,rfl,hu,(H.take_drop (i+1) hi).2⟩
theorem Els.repl {z:List Value} {x:X} (hz:E.P h M z x): ∀ n,Els E h M (List.replicate n z).flatten (List.replicate n x)
  | 0=>rfl
  | n+1=>⟨z,_,by simp [List.replicate_succ],hz,Els.repl hz n⟩
theorem Els.one1 {x:X} (H:E.P h M vs x):Els E h M vs [x]:=⟨vs,[],by simp,H,rfl⟩
@[reducible] def rI (k:IntKind):Rp Int:=⟨1,fun _ _ vs x=>vs=[.int k x],by rintro _ _ _ _ rfl; rfl,by rintro _ _ _ _ rfl; simp [Value.oneCell'],fun _ h=>h⟩
@[reducible] def rB:Rp Bool:=⟨1,fun _ _ vs x=>vs=[.bool x],by rintro _ _ _ _ rfl; rfl,by rintro _ _ _ _ rfl; simp [Value.oneCell'],fun _ h=>h⟩
@[reducible] def rT:Rp ByteArray:=⟨1,fun _ _ vs x=>vs=[.string x],by rintro _ _ _ _ rfl; rfl,by rintro _ _ _ _ rfl; simp [Value.oneCell'],fun _ h=>h⟩
@[reducible] def rP:Rp (Option Addr):=⟨1,fun _ _ vs x=>vs=[.pointer x],by rintro _ _ _ _ rfl; rfl,by rintro _ _ _ _ rfl; simp [Value.oneCell'],fun _ h=>h⟩
@[reducible] def rV (k:IntKind) (n:Nat):Rp (Vector Int n):=⟨n,fun _ _ vs x=>vs=lumpV k n x.toList,by rintro _ _ _ _ rfl; exact lumpV_length _ _ _,by
  rintro _ _ _ x rfl v hv
  simp only [lumpV,List.mem_map] at hv
  obtain ⟨y,_,rfl⟩:=hv
  rfl,fun _ h=>h⟩
theorem els_I {k:IntKind}: ∀ {l:List Int} {vs:List Value},Els (rI k) h M vs l↔vs=l.map (Value.int k)
  | [],vs=>Iff.rfl
  | x :: l, vs => by
    constructor
    · rintro ⟨u, w, rfl, rfl, h2⟩
      rw [els_I.1 h2]; rfl
    · rintro rfl
      exact ⟨[_],_,rfl,rfl,els_I.2 rfl⟩
def SlE (E:Rp X) (h:Hp) (M:List Nat) (a:Option Addr) (c:Nat) (l:List X):Prop:=
  ∃ vs,SlV h ⟨a,l.length,c⟩ E.n vs∧l.length≤c∧(vs ≠ []→ ∀ x,a=some x→x.block ∉ M)∧Els E h M vs l
theorem slv_nil {a:Option Addr} {c n:Nat} (m:Nat) (hn:n*m=0):SlV h ⟨a,n,c⟩ m []:=by
  refine ⟨by simp [hn], ?_⟩
  cases a with
  | none=>rfl
  | some a=>exact ⟨fun h=>absurd rfl h,fun i hi=>by simp at hi⟩
theorem slv_le {s:Sl} {n:Nat} (hL:Le h M h' M') (H:SlV h s n vs) (hd:vs ≠ []→ ∀ x,s.a=some x→x.block ∉ M):SlV h' s n vs:=by
  cases vs with
  | nil=>obtain ⟨a,l,c⟩:=s; exact slv_nil n (by have:=H.1; simpa using this.symm)
  | cons v w=>exact H.keep hL.1 (hd (by simp))
theorem SlE.mono {a:Option Addr} {c:Nat} (hL:Le h M h' M'):SlE E h M a c l→SlE E h' M' a c l:=by
  rintro ⟨vs,h1,h2,h3,h4⟩
  refine ⟨vs,slv_le hL h1 h3,h2,fun hne x hx e=> ?_,h4.mono hL⟩
  rcases hL.2 _ e with h5 | h5
  · exact h3 hne x hx h5
  · obtain ⟨g1, g2⟩ := h1
    subst hx
    have hp:0<vs.length:=by
      cases vs with
      | nil=>exact absurd rfl hne
      | cons a b=>simp
    have:=hcell_lt (g2.2 0 hp)
    simp at this; omega
@[reducible] def rS (E:Rp X):Rp (List X):=
  ⟨1,fun h M vs l=> ∃ (a:Option Addr) (c:Nat),vs=[.slice a l.length c]∧SlE E h M a c l,by rintro _ _ _ _ ⟨a,c,rfl,_⟩; rfl,by rintro _ _ _ _ ⟨a,c,rfl,_⟩; simp [Value.oneCell'],
    fun hL ⟨a,c,e,h⟩=>⟨a,c,e,h.mono hL⟩⟩
def roS (E:Rp X) (a:Option Addr) (n c:Nat) (l:List X):At:=
  ⟨fun h F M=>F=[]∧n=l.length∧SlE E h M a c l,fun _ hL ⟨e,en,h⟩=>⟨e,en,h.mono hL⟩,fun ⟨e,_⟩ b hb=>by subst e; cases hb⟩
def repA (E:Rp X) (vs:List Value) (x:X):At:=
  ⟨fun h F M=>F=[]∧E.P h M vs x,fun _ hL ⟨e,h⟩=>⟨e,E.mono hL h⟩,fun ⟨e,_⟩ b hb=>by subst e; cases hb⟩
theorem own_agree {s:Sl} {T n:Nat} {F:List Nat} (H:Own h s T n vs F) (hk: ∀ b ∈ F,h'[b]? =h[b]?):Own h' s T n vs F:=by
  obtain ⟨h1,h2,h3⟩:=H
  refine ⟨h1,h2, ?_⟩
  cases ha:s.a with
  | none=>rw [ha] at h3; exact h3
  | some a =>
    rw [ha] at h3
    obtain ⟨hf,hs,pre,post,z,hb,h4⟩:=h3
    exact ⟨hf,hs,pre,post,z,by rw [hk a.block (by rw [hf]; simp),hb],h4⟩
def ownS (E:Rp X) (a:Option Addr) (n c:Nat) (l:List X):At:=
  ⟨fun h F M=>n=l.length∧ ∃ (T:Nat) (vs:List Value),Own h ⟨a,l.length,c⟩ T E.n vs F∧Els E h M vs l,fun hk hL ⟨en,T,vs,h1,h2⟩=>⟨en,T,vs,own_agree h1 hk,h2.mono hL⟩,fun ⟨_,_,_,h,_⟩=>h.lt⟩
inductive Seg where
  | one (v:Value)
  | vec (k:IntKind) (n:Nat) (v:Vector Int n)
@[reducible] def Seg.size:Seg→Nat
  | .one _=>1
  | .vec _ n _=>n
def Seg.cells:Seg→List Value
  | .one v=>[v]
  | .vec k n v=>lumpV k n v.toList
def segs:List Seg→List Value
  | []=>[]
  | s::r=>s.cells++segs r
def segAt:List Seg→Nat→Nat→Option (Nat × Seg)
  | [],_,_=>none
  | s::_,0,off=>some (off,s)
  | s::r,i+1,off=>segAt r i (off+s.size)
def segSize:List Seg→Nat
  | []=>0
  | s::r=>s.size+segSize r
theorem Seg.cells_length (s:Seg):s.cells.length=s.size:=by
  cases s with
  | one v=>rfl
  | vec k n v=>simp [Seg.cells,lumpV_length]
theorem segs_length: ∀ ss:List Seg,(segs ss).length=segSize ss
  | []=>rfl
  | s::r=>by simp only [segs,segSize,List.length_append,s.cells_length,segs_length r]
theorem segs_append: ∀ (l r:List Seg),segs (l++r)=segs l++segs r
  | [],_=>rfl
  | s::l,r=>by simp only [List.cons_append,segs,segs_append l r,List.append_assoc]
theorem segAt_split: ∀ {ss:List Seg} {i acc off:Nat} {s:Seg},segAt ss i acc=some (off,s)→ss=ss.take i++s::ss.drop (i+1)∧off=acc+segSize (ss.take i)
  | [],_,_,_,_,h=>by simp [segAt] at h
  | s::r,0,acc,off,t,h=>by simp [segAt] at h; obtain ⟨rfl,rfl⟩:=h; simp [segSize]
  | s :: r, i + 1, acc, off, t, h => by
    simp only [segAt] at h
    obtain ⟨h1,h2⟩:=segAt_split h
    refine ⟨by simp only [List.take_succ_cons,List.drop_succ_cons,List.cons_append]; rw [← h1],by simp only [List.take_succ_cons,segSize]; omega⟩
theorem nrm_v {n:Nat} (v:Vector Int n):nrm n v.toList=v.toList:=nrm_eq (by simp)
theorem lumpV_v (k:IntKind) {n:Nat} (v:Vector Int n):lumpV k n v.toList=v.toList.map (Value.int k):=by rw [lumpV,nrm_v]
def blk (p : Addr) (T : Nat) (ss : List Seg) : At :=
  ⟨fun h F _=>F=[p.block]∧p.off=0∧p.spot=none∧h[p.block]? =some (.cells (segs ss).toArray T (0,0)),
    fun hk _ ⟨e,e1,e2,h⟩=>⟨e,e1,e2,by rw [hk p.block (by simp [e]),h]⟩,fun ⟨e,_,_,h⟩ b hb=>by
      subst e; simp at hb; subst hb; exact lt_of_get h⟩
def Rd (E:Rp X) (a:At) (p:Option Addr) (n c:Nat) (l:List X):Prop:=
  ∀ {h F M},a.P h F M→n=l.length∧ ∃ vs,SlV h ⟨p,l.length,c⟩ E.n vs∧l.length≤c∧Els E h M vs l
theorem rd_ro {a:Option Addr} {n c:Nat}:Rd E (roS E a n c l) a n c l:=fun ⟨_,en,vs,h1,h2,_,h3⟩=>⟨en,vs,h1,h2,h3⟩
theorem rd_own {a:Option Addr} {n c:Nat}:Rd E (ownS E a n c l) a n c l:=fun ⟨en,_,vs,h1,h2⟩=>⟨en,vs,h1.slv,h1.2.1,h2⟩
theorem rd_len {a':At} {p:Option Addr} {n c:Nat} {h:Hp} {A:List At} (hX:Rd E a' p n c l) (I:Inv h (a'::A)):n=l.length:=by
  obtain ⟨F,M,hP⟩:=I.get
  exact (hX hP).1
theorem own_len {a:Option Addr} {n c:Nat} {h:Hp} {A:List At} (I:Inv h (ownS E a n c l::A)):n=l.length:=rd_len rd_own I
theorem ro_len {a:Option Addr} {n c:Nat} {h:Hp} {A:List At} (I:Inv h (roS E a n c l::A)):n=l.length:=rd_len rd_ro I
variable {A:List At} {a:Option Addr} {c:Nat}
theorem br_r {b:Bool} {X Y X' Y':Prop} (H:br b X' Y') (h1:b=true→X'→X) (h2:b=false→Y'→Y):br b X Y:=by
  cases b with
  | true=>exact h1 rfl H
  | false=>exact h2 rfl H
theorem and_r {φ X X':Prop} (H:φ∧X') (h1:X'→X):φ∧X:=⟨H.1,h1 H.2⟩
theorem nil_r {p:Option Addr} {K K':Addr→Prop} (H:nilW p K') (k: ∀ x,p=some x→K' x→K x):nilW p K:=by
  cases p with
  | none=>exact H
  | some x=>exact k x rfl H
theorem nil_e {p:Option Addr} {x:Addr} {K:Addr→Prop} (e:p=some x) (k:K x):nilW p K:=by subst e; exact k
theorem al_r {T:Nat} {vs:List Value} {K:Addr→Hp→Prop} (ss:List Seg) (hs:vs=segs ss) (I:Inv h A) (k: ∀ p h',Inv h' (blk p T ss::A)→K p h'):alW h T vs K:=by
  subst hs
  refine k _ _ ?_
  obtain ⟨F,M,hF,_,_,_,H⟩:=I.emp_add.turn
  have hF:F=[]:=hF
  subst hF
  exact H _ [_] [[h.size]] (Keep.push _ _ _) (fun b hb=> .inr (by simp at hb; omega)) (by simp) fun M' _ _ _=>⟨⟨rfl,rfl,rfl,push_get _ _⟩,trivial⟩
theorem add_eq {p:Addr} (h0:p.off=0) (h1:p.spot=none) (i:Nat):p.add i=⟨p.block,i,none⟩:=by
  obtain ⟨b,o,s⟩:=p
  simp only at h0 h1
  subst h0 h1
  rw [add_mk,Nat.zero_add]
theorem Inv.cell {p:Addr} {T:Nat} {ss:List Seg} (I:Inv h (blk p T ss::A)) (i off:Nat) {v:Value} (hv:segAt ss i 0=some (off, .one v)):hcell h (p.add off)=some v:=by
  obtain ⟨F,M,_,h0,h1,hb⟩:=I.get
  obtain ⟨e1,e2⟩:=segAt_split hv
  rw [add_eq h0 h1,hcell_of hb,e1,segs_append,e2,Nat.zero_add]
  simp only [segs,Seg.cells,List.getElem?_toArray]
  rw [List.getElem?_append_right (by rw [segs_length]; exact Nat.le_refl _),segs_length,Nat.sub_self]
  rfl
theorem Inv.lump {p:Addr} {T n:Nat} {k:IntKind} {ss:List Seg} (I:Inv h (blk p T ss::A)) (i off:Nat) {v:Vector Int n} (hv:segAt ss i 0=some (off, .vec k n v)):lfact k n v.toList (p.add off) h:=by
  obtain ⟨F,M,_,h0,h1,hb⟩:=I.get
  obtain ⟨e1,e2⟩:=segAt_split hv
  intro j hj
  rw [add_add,add_eq h0 h1,hcell_of hb,e1,segs_append,e2,Nat.zero_add]
  simp only [segs,Seg.cells,List.getElem?_toArray]
  rw [List.getElem?_append_right (by rw [segs_length]; omega),segs_length,Nat.add_sub_cancel_left,List.getElem?_append_left (by rw [lumpV_length]; exact hj),lump_get k n _ j hj]
theorem lt_r {i n:Nat} (h:Nat.blt i n=true):i<n:=by simpa using h
theorem le_r {i n:Nat} (h:Nat.ble i n=true):i≤n:=by simpa using h
theorem ldI_r {k:IntKind} {p:Addr} {n:Int} {K:Int→Prop} (hc:hcell h p=some (.int k n)) (H:K n):ldI k h p K:=⟨n,hc,H⟩
theorem ldB_r {p:Addr} {n:Bool} {K:Bool→Prop} (hc:hcell h p=some (.bool n)) (H:K n):ldB h p K:=⟨n,hc,H⟩
theorem ldT_r {p:Addr} {n:ByteArray} {K:ByteArray→Prop} (hc:hcell h p=some (.string n)) (H:K n):ldT h p K:=⟨n,hc,H⟩
theorem ldP_r {p:Addr} {n:Option Addr} {K:Option Addr→Prop} (hc:hcell h p=some (.pointer n)) (H:K n):ldP h p K:=⟨n,hc,H⟩
theorem ldM_r {p:Addr} {n:Option Nat} {K:Option Nat→Prop} (hc:hcell h p=some (.map n)) (H:K n):ldM h p K:=⟨n,hc,H⟩
theorem ldS_r {p:Addr} {a:Option Addr} {n c:Nat} {K:Sl→Prop} (hc:hcell h p=some (.slice a n c)) (H:K ⟨a,n,c⟩):ldS h p K:=⟨⟨a,n,c⟩,hc,H⟩
theorem ldV_r {p:Addr} {v:Value} {K:Value→Prop} (hc:hcell h p=some v) (H:K v):ldV h p K:=⟨v,hc,H⟩
theorem ldL_r {k:IntKind} {n:Nat} {p:Addr} {v:Vector Int n} {K:List Int→Prop} (hc:lfact k n v.toList p h) (H:K v.toList):ldL k n h p K:=⟨v.toList,by simp,hc,H⟩
theorem stA_r {p:Addr} {T:Nat} {ss:List Seg} {vs:List Value} {K:Hp→Prop} (I:Inv h (blk p T ss::A)) (i m off:Nat) (ws:List Seg) (hw:vs=segs ws) (hi:segSize (ss.take i)=off) (hm:segSize ((ss.drop i).take m)=segSize ws)
    (ho: ∀ v ∈ segs ws,v.oneCell'=true) (k: ∀ h',Inv h' (blk p T (ss.take i++(ws++(ss.drop i).drop m))::A)→K h'):stAll h (p.add off) 0 vs K:=by
  subst hw
  obtain ⟨F,M,⟨hF,h0,h1,hb⟩,hFM,hn,hlt,H⟩:=I.turn
  rw [add_eq h0 h1]
  have e:segs ss=segs (ss.take i)++segs ((ss.drop i).take m)++segs ((ss.drop i).drop m):=by
    rw [List.append_assoc,← segs_append,← segs_append,List.take_append_drop,List.take_append_drop]
  refine stAll_mid (T:=T) (z:=(0,0)) (segs ws) (segs ((ss.drop i).take m)) h (segs (ss.take i)) (segs ((ss.drop i).drop m)) 0 (by rw [hb,← e]) (by simp only [segs_length,hm]) (by rw [segs_length]; omega) (.inl (Nat.zero_le _)) ho fun h' hb' k' hs'=> ?_
  refine k h' (H h' [_] [[p.block]] (by rw [hF]; exact k') (fun b hb=> .inl (by rw [hF]; simpa using hb)) (by simp) fun M' _ _ _=>⟨⟨rfl,h0,h1, ?_⟩,trivial⟩)
  rw [hb',segs_append,segs_append,List.append_assoc]
theorem st_r {p:Addr} {T:Nat} {ss:List Seg} {u v:Value} {K:Hp→Prop} (I:Inv h (blk p T ss::A)) (i off:Nat) (hu:segAt ss i 0=some (off, .one u)) (k: ∀ h',Inv h' (blk p T (ss.set i (.one v))::A)→K h'):
    st h (p.add off) v K:=by
  obtain ⟨F,M,⟨hF,h0,h1,hb⟩,hFM,hn,hlt,H⟩:=I.turn
  obtain ⟨e1,e2⟩:=segAt_split hu
  rw [add_eq h0 h1]
  have hil:i<ss.length:=by
    have:=congrArg List.length e1
    simp at this; omega
  refine st_mid (T:=T) (z:=(0,0)) (pre:=segs (ss.take i)) (post:=segs (ss.drop (i+1))) (u:=u) ?_ (by rw [segs_length]; omega) (.inr (Nat.zero_le _)) fun h' hb' k' hs'=> ?_
  · rw [hb]; conv => lhs; rw [e1, segs_append]
    rfl
  · refine k h' (H h' [_] [[p.block]] (by rw [hF]; exact k') (fun b hb => .inl (by rw [hF]; simpa using hb)) (by simp) fun M' _ _ _ => ⟨⟨rfl, h0, h1, ?_⟩, trivial⟩)
    rw [hb',List.set_eq_take_append_cons_drop,if_pos hil,segs_append]
    rfl
theorem Inv.lit {p:Addr} {T n:Nat} {ss:List Seg} (I:Inv h (blk p T ss::A)) (hn:n=l.length) (H: ∀ M,Els E h M (segs ss) l):Inv h (ownS E (some p) n n l::A):=by
  subst hn
  refine I.conv fun F M ⟨hF,h0,h1,hb⟩=>⟨rfl,T,segs ss,⟨(H M).len,Nat.le_refl _, ?_⟩,H M⟩
  refine ⟨hF,h1,[],[],(0,0),by simpa using hb,by simp [h0], ?_, .inl (Nat.zero_le _)⟩
  rw [(H M).len]; simp
theorem Inv.lit0 {p:Addr} {T:Nat} (E:Rp X) (I:Inv h (blk p T []::A)):Inv h (ownS E (some p) 0 0 []::A):=I.lit (l:=[]) rfl fun _=>rfl
def litA (E:Rp X) (vs:List Value) (l:List X):At:=
  ⟨fun h F M=>F=[]∧Els E h M vs l,fun _ hL ⟨e,h⟩=>⟨e,h.mono hL⟩,fun ⟨e,_⟩ b hb=>by subst e; cases hb⟩
theorem Inv.litN (E:Rp X) (I:Inv h A):Inv h (litA E [] []::A):=I.addP fun M _=>⟨rfl,rfl⟩
theorem Inv.litC {vs ws:List Value} {x:X} (I:Inv h (repA E vs x::litA E ws l::A)):Inv h (litA E (vs++ws) (x::l)::A):=
  I.sepI.conv fun F M ⟨F1,F2,e,⟨e1,h1⟩,e2,h2⟩=>⟨by rw [e,e1,e2]; rfl,vs,ws,rfl,h1,h2⟩
theorem Inv.litL {p:Addr} {T n:Nat} {ss:List Seg} {vs:List Value} (I:Inv h (litA E vs l::blk p T ss::A)) (hv:vs=segs ss) (hn:n=l.length):Inv h (ownS E (some p) n n l::A):=by
  subst hv hn
  refine I.sepI.conv fun F M ⟨F1,F2,e,⟨e1,h2⟩,hF,h0,h1,hb⟩=>⟨rfl,T,segs ss,⟨h2.len,Nat.le_refl _, ?_⟩,h2⟩
  subst e1
  refine ⟨by rw [e]; exact hF,h1,[],[],(0,0),by simpa using hb,by simp [h0], ?_, .inl (Nat.zero_le _)⟩
  simp only
  rw [h2.len]; simp
theorem Inv.freeze {n:Nat} (I:Inv h (ownS E a n c l::A)):Inv h (roS E a n c l::A):=by
  obtain ⟨F,M,⟨en,T,vs,h1,h2⟩,hFM,hn,hlt,H⟩:=I.turn
  refine H h [_] [[]] (Keep.refl _ _) (by simp) (by simp) fun M' hL hM' _=>⟨⟨rfl,en,vs,h1.slv,h1.2.1,fun _ x hx hm=> ?_,h2.mono hL⟩,trivial⟩
  have:=hM' _ hm
  simp only [List.flatten_cons,List.flatten_nil,List.append_nil,List.not_mem_nil,false_or] at this
  exact this.2 (by rw [h1.sa x hx]; simp)
theorem Inv.nilO (E:Rp X) (I:Inv h A):Inv h (ownS E none 0 0 []::A):=I.addP fun M _=>⟨rfl,0,[],Own.nil _ _ _,rfl⟩
theorem Inv.nilR (E:Rp X) (I:Inv h A):Inv h (roS E none 0 0 []::A):=I.addP fun M _=>⟨rfl,rfl,[],SlV.nil _ _,Nat.le_refl _,fun h=>absurd rfl h,rfl⟩
theorem Inv.dupR {n:Nat} (I:Inv h (roS E a n c l::A)):Inv h (roS E a n c l::roS E a n c l::A):=I.dup fun _ _ h=>h.1
def ixP (l:List X) (i:Int) (K:X→Prop):Prop:=0≤i∧ ∃ x,l[i.toNat]? =some x∧K x
theorem ixP_lt {i:Int} {K:X→Prop} (H:ixP l i K):0≤i∧i<l.length:=by
  obtain ⟨h0,x,hx,_⟩:=H
  rw [List.getElem?_eq_some_iff] at hx
  obtain ⟨h1,_⟩:=hx
  exact ⟨h0,by omega⟩
theorem ixP_mono {i:Int} {K K':X→Prop} (H:ixP l i K) (k: ∀ x,K x→K' x):ixP l i K':=⟨H.1,H.2.imp fun x hx=>⟨hx.1,k x hx.2⟩⟩
def EAdr (a:Option Addr) (n:Nat) (i:Int) (p:Addr):Prop:= ∃ x,a=some x∧p=x.add (i.toNat*n)
theorem slv_cell {s:Sl} {n i j:Nat} {x:Addr} (H:SlV h s n vs) (hx:s.a=some x) {v:Value} (hv:vs[i*n+j]? =some v):hcell h ((x.add (i*n)).add j)=some v:=by
  obtain ⟨h1,h2⟩:=H
  rw [hx] at h2
  rw [List.getElem?_eq_some_iff] at hv
  obtain ⟨hlt,hv⟩:=hv
  obtain ⟨b,o,sp⟩:=x
  obtain rfl:sp=none:=h2.1 (by rintro rfl; simp at hlt)
  rw [add_mk,add_mk,Nat.add_assoc,h2.2 _ hlt,hv]
theorem ix_r {a':At} {n:Nat} {i:Int} {K':X→Prop} {K:Addr→Prop} (hX:Rd E a' a n c l) (I:Inv h (a'::A)) (hn:E.n ≠ 0) (H:ixP l i K')
    (k: ∀ p vs x,EAdr a E.n i p→l[i.toNat]? =some x→(∀ j v,vs[j]? =some v→hcell h (p.add j)=some v)→Inv h (repA E vs x::a'::A)→K' x→K p):ixW a n i E.n K:=by
  obtain rfl:=rd_len hX I
  have hb:=ixP_lt H
  obtain ⟨h0,x,hx,hK⟩:=H
  obtain ⟨F,M,hP,hFM,hnd,hlt,HH⟩:=I.turn
  obtain ⟨_,vs,h1,h2,h3⟩:=hX hP
  obtain ⟨u,hu,hcells⟩:=h3.get hx
  obtain ⟨y,rfl⟩: ∃ y,a=some y:=by
    cases a with
    | some y=>exact ⟨y,rfl⟩
    | none =>
      have:=h1.2
      simp only at this
      subst this
      have hl:0=l.length*E.n:=h1.1
      rcases Nat.mul_eq_zero.1 hl.symm with e | e
      · omega
      · exact absurd e hn
  refine ⟨y,rfl,hb,k _ u x ⟨y,rfl,rfl⟩ hx (fun j v hv=> ?_) ?_ hK⟩
  · have hj : j < u.length := by rw [List.getElem?_eq_some_iff] at hv; exact hv.1
    exact slv_cell h1 rfl (by rw [hcells j hj]; exact hv)
  · exact HH h [repA E u x,a'] [[],F] (Keep.refl _ _) (fun b hb=> .inl (by simpa using hb)) (by simpa using hnd) fun M' hL _ _=>⟨⟨rfl,E.mono hL hu⟩,a'.mono (fun _ _=>rfl) hL hP,trivial⟩
theorem Inv.repS {vs:List Value} {x:List X} (I:Inv h (repA (rS E) vs x::A)): ∃ a c,vs=[.slice a x.length c]∧Inv h (roS E a x.length c x::A):=by
  obtain ⟨F,M,⟨hF,a,c,e,hs⟩,hFM,hn,hlt,H⟩:=I.turn
  refine ⟨a,c,e,H h [roS E a x.length c x] [[]] (Keep.refl _ _) (by simp) (by simp) fun M' hL _ _=>⟨⟨rfl,rfl,hs.mono hL⟩,trivial⟩⟩
end Go.Pu
