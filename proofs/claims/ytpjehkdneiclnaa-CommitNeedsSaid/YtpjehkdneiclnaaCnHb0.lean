import Derived.Test.YtpjehkdneiclnaaCnWc13
set_option linter.unusedSimpArgs false
set_option linter.unusedVariables false
namespace Go.Wc
@[simp] theorem add_mk (b o n:Nat):(⟨b,o,none⟩:Addr).add n=⟨b,o+n,none⟩:=by
  unfold Addr.add; split
  · rename_i h; subst h; rfl
  · rfl
theorem hcell_of {h:Hp} {b:Nat} {c:Array Value} {T:Nat} {z:Nat × Nat} (hb:h[b]? =some (.cells c T z)) (i:Nat):hcell h ⟨b,i,none⟩=c[i]? :=by
  simp [hcell,hb]
theorem hcell_congr {h h':Hp} {a:Addr} (e:h'[a.block]? =h[a.block]?):hcell h' a=hcell h a:=by simp only [hcell,e]
theorem hcell_lt {h:Hp} {a:Addr} {v:Value} (hc:hcell h a=some v):a.block<h.size:=by
  unfold hcell at hc
  cases hb:h[a.block]? with
  | none=>rw [hb] at hc; cases hc
  | some o=>rw [Array.getElem?_eq_some_iff] at hb; exact hb.1
def Keep (F:List Nat) (h h':Hp):Prop:=h.size≤h'.size∧ ∀ b,b<h.size→b ∉ F→h'[b]? =h[b]?
theorem Keep.refl (F:List Nat) (h:Hp):Keep F h h:=⟨Nat.le_refl _,fun _ _ _=>rfl⟩
theorem Keep.trans {F G:List Nat} {h h1 h2:Hp} (k1:Keep F h h1) (k2:Keep G h1 h2) (hG: ∀ b ∈ G,b ∈ F∨h.size≤b):Keep F h h2:=by
  refine ⟨Nat.le_trans k1.1 k2.1,fun b hb hF=> ?_⟩
  rw [k2.2 b (Nat.lt_of_lt_of_le hb k1.1) (fun hg=>(hG b hg).elim hF (fun hl=>by omega)),k1.2 b hb hF]
theorem Keep.mono {F G:List Nat} {h h':Hp} (k:Keep F h h') (hG: ∀ b ∈ F,b ∈ G∨h.size≤b):Keep G h h':=
  ⟨k.1,fun b hb hg=>k.2 b hb fun hf=>(hG b hf).elim hg (fun hl=>by omega)⟩
theorem Keep.push (F:List Nat) (h:Hp) (o:Obj):Keep F h (h.push o):=
  ⟨by simp,fun b hb _=>Array.getElem?_push_lt hb ▸ (by simp [Array.getElem?_eq_getElem hb])⟩
theorem Keep.get {F:List Nat} {h h':Hp} (k:Keep F h h') {b:Nat} {o:Obj} (hb:h[b]? =some o) (hF:b ∉ F):h'[b]? =some o:=by
  rw [k.2 b (by rw [Array.getElem?_eq_some_iff] at hb; exact hb.1) hF,hb]
theorem Keep.cell {F:List Nat} {h h':Hp} (k:Keep F h h') {a:Addr} {v:Value} (hc:hcell h a=some v) (hF:a.block ∉ F):hcell h' a=some v:=by
  rw [hcell_congr (k.2 _ (hcell_lt hc) hF),hc]
theorem Keep.set {F:List Nat} {h:Hp} {r:Nat} (o:Obj) (hr:r ∈ F):Keep F h (h.setIfInBounds r o):=
  ⟨by simp,fun b _ hF=>by
    have:r ≠ b:=fun e=>hF (e ▸ hr)
    rw [Array.getElem?_setIfInBounds_ne this]⟩
theorem Keep.hset {F:List Nat} {h:Hp} {a:Addr} (v:Value) (hr:a.block ∈ F):Keep F h (hset h a v):=
  ⟨by simp [Wc.hset],fun b _ hF=>by
    have:a.block ≠ b:=fun e=>hF (e ▸ hr)
    simp only [Wc.hset,Array.getElem?_modify,if_neg this]⟩
theorem lt_of_get {h:Hp} {b:Nat} {o:Obj} (hb:h[b]? =some o):b<h.size:=by
  rw [Array.getElem?_eq_some_iff] at hb; exact hb.1
theorem hset_get {h:Hp} {b i:Nat} {c:Array Value} {T:Nat} {z:Nat × Nat} (v:Value) (hb:h[b]? =some (.cells c T z)):
    (hset h ⟨b,i,none⟩ v)[b]? =some (.cells (c.setIfInBounds i v) T z):=by
  simp only [hset,Array.getElem?_modify,if_true,hb,Option.map_some]
  rfl
theorem push_get (h:Hp) (o:Obj):(h.push o)[h.size]? =some o:=by simp
theorem push_get_lt {h:Hp} {b:Nat} {o o':Obj} (hb:h[b]? =some o):(h.push o')[b]? =some o:=by
  rw [Array.getElem?_push_lt (lt_of_get hb)]
  rw [Array.getElem?_eq_some_iff] at hb
  obtain ⟨_,rfl⟩:=hb; rfl
theorem ldI_of {k:IntKind} {h:Hp} {a:Addr} {n:Int} {K:Int→Prop} (hc:hcell h a=some (.int k n)):ldI k h a K=K n:=by
  apply propext; constructor
  · rintro ⟨m,h1,h2⟩; rw [hc] at h1; cases h1; exact h2
  · exact fun hk=>⟨n,hc,hk⟩
theorem ldB_of {h:Hp} {a:Addr} {n:Bool} {K:Bool→Prop} (hc:hcell h a=some (.bool n)):ldB h a K=K n:=by
  apply propext; constructor
  · rintro ⟨m,h1,h2⟩; rw [hc] at h1; cases h1; exact h2
  · exact fun hk=>⟨n,hc,hk⟩
theorem ldT_of {h:Hp} {a:Addr} {n:ByteArray} {K:ByteArray→Prop} (hc:hcell h a=some (.string n)):ldT h a K=K n:=by
  apply propext; constructor
  · rintro ⟨m,h1,h2⟩; rw [hc] at h1; cases h1; exact h2
  · exact fun hk=>⟨n,hc,hk⟩
theorem ldP_of {h:Hp} {a:Addr} {n:Option Addr} {K:Option Addr→Prop} (hc:hcell h a=some (.pointer n)):ldP h a K=K n:=by
  apply propext; constructor
  · rintro ⟨m,h1,h2⟩; rw [hc] at h1; cases h1; exact h2
  · exact fun hk=>⟨n,hc,hk⟩
theorem ldM_of {h:Hp} {a:Addr} {n:Option Nat} {K:Option Nat→Prop} (hc:hcell h a=some (.map n)):ldM h a K=K n:=by
  apply propext; constructor
  · rintro ⟨m,h1,h2⟩; rw [hc] at h1; cases h1; exact h2
  · exact fun hk=>⟨n,hc,hk⟩
theorem ldS_of {h:Hp} {a:Addr} {s:Sl} {K:Sl→Prop} (hc:hcell h a=some (.slice s.a s.len s.cap)):ldS h a K=K s:=by
  apply propext; constructor
  · rintro ⟨m, h1, h2⟩
    rw [hc] at h1
    have:s=m:=by cases s; cases m; simp at h1; obtain ⟨rfl,rfl,rfl⟩:=h1; rfl
    subst this; exact h2
  · exact fun hk=>⟨s,hc,hk⟩
@[simp] theorem isB_mk (b:Bool) (K:Bool→Prop):isB (.bool b) K=K b:=by
  apply propext; constructor
  · rintro ⟨m,h1,h2⟩; cases h1; exact h2
  · exact fun hk=>⟨b,rfl,hk⟩
@[simp] theorem isI_mk (k:IntKind) (n:Int) (K:Int→Prop):isI k (.int k n) K=K n:=by
  apply propext; constructor
  · rintro ⟨m,h1,h2⟩; cases h1; exact h2
  · exact fun hk=>⟨n,rfl,hk⟩
theorem st_of {h:Hp} {b i T:Nat} {c:Array Value} {z:Nat × Nat} {v:Value} {K:Hp→Prop} (hb:h[b]? =some (.cells c T z)) (hi:i<c.size) (hz:i<z.1∨z.2≤i)
    (hk:K (hset h ⟨b,i,none⟩ v)):st h ⟨b,i,none⟩ v K:=by
  refine ⟨⟨c[i],by rw [hcell_of hb]; simp [hi]⟩, ?_,hk⟩
  obtain ⟨lo,hi'⟩:=z
  simp only [hfrz,hb,Bool.and_eq_false_iff,decide_eq_false_iff_not]
  rcases hz with hz | hz
  · left; simp at hz; omega
  · right; simp at hz; omega
theorem wrap64 {n:Int} (h1: -9223372036854775808≤n) (h2:n<9223372036854775808):IntKind.wrap .i64 n=n:=by
  have e1:(2:Int) ^ 64=18446744073709551616:=by decide
  have e2:(2:Int) ^ (64 - 1)=9223372036854775808:=by decide
  simp only [IntKind.wrap,IntKind.bits,IntKind.signed,Bool.true_and,decide_eq_true_eq,e1,e2]
  split <;> omega
def SlV (h : Hp) (s : Sl) (size : Nat) (vs : List Value) : Prop :=
  vs.length=s.len*size∧match s.a with
    | none=>vs=[]
    | some a=>(vs ≠ []→a.spot=none)∧ ∀ i,(hi:i<vs.length)→hcell h ⟨a.block,a.off+i,none⟩=some vs[i]
theorem SlV.nil (h:Hp) (size:Nat):SlV h ⟨none,0,0⟩ size []:=⟨by simp,rfl⟩
theorem SlV.keep {F:List Nat} {h h':Hp} {s:Sl} {size:Nat} {vs:List Value} (H:SlV h s size vs) (k:Keep F h h') (hF: ∀ a,s.a=some a→a.block ∉ F):SlV h' s size vs:=by
  obtain ⟨h1,h2⟩:=H
  refine ⟨h1, ?_⟩
  cases ha:s.a with
  | none=>rw [ha] at h2; exact h2
  | some a =>
    rw [ha] at h2
    exact ⟨h2.1,fun i hi=>k.cell (h2.2 i hi) (hF a ha)⟩
theorem SlV.fresh {F:List Nat} {h h':Hp} {s:Sl} {size:Nat} {vs:List Value} (H:SlV h s size vs) (k:Keep F h h') (hF: ∀ b ∈ F,h.size≤b):SlV h' s size vs:=by
  obtain ⟨h1,h2⟩:=H
  refine ⟨h1, ?_⟩
  cases ha:s.a with
  | none=>rw [ha] at h2; exact h2
  | some a =>
    rw [ha] at h2
    refine ⟨h2.1,fun i hi=> ?_⟩
    have hc:=h2.2 i hi
    have:=hcell_lt hc
    exact k.cell hc fun e=>by have:=hF _ e; simp at*; omega
theorem SlV.cellsAt {h:Hp} {s:Sl} {size:Nat} {vs:List Value} (H:SlV h s size vs):cellsAt h s.a (s.len*size) vs:=by
  obtain ⟨h1,h2⟩:=H
  cases ha:s.a with
  | none=>rw [ha] at h2; exact h2
  | some a =>
    rw [ha] at h2
    obtain ⟨b,o,sp⟩:=a
    obtain ⟨hsp,h2⟩:=h2
    exact ⟨h1,fun i hi=>by
      obtain rfl:sp=none:=hsp (by rintro rfl; cases hi)
      rw [add_mk]; exact h2 i hi⟩
theorem cellsAt_unique {h:Hp} {a:Option Addr} {n:Nat} {u v:List Value} (hu:Wc.cellsAt h a n u) (hv:Wc.cellsAt h a n v):u=v:=by
  cases a with
  | none=>simp only [Wc.cellsAt] at hu hv; rw [hu,hv]
  | some a =>
    obtain ⟨u1,u2⟩:=hu; obtain ⟨v1,v2⟩:=hv
    apply List.ext_getElem (by omega)
    intro i h1 h2
    have:=u2 i h1
    rw [v2 i h2] at this
    simpa using this.symm
theorem ix_of {h:Hp} {s:Sl} {vs:List Value} {i:Int} {K:Addr→Prop} (H:SlV h s 1 vs) (h0:0≤i) (hi:i<vs.length)
    (hk: ∀ a,hcell h a=vs[i.toNat]? →K a):ixW s.a s.len i 1 K:=by
  obtain ⟨h1,h2⟩:=H
  cases ha:s.a with
  | none=>rw [ha] at h2; simp only at h2; subst h2; simp at hi; omega
  | some a =>
    rw [ha] at h2
    obtain ⟨b,o,sp⟩:=a
    obtain ⟨hsp,h2⟩:=h2
    obtain rfl:sp=none:=hsp (by rintro rfl; simp at hi; omega)
    refine ⟨_,rfl,⟨h0,by omega⟩,hk _ ?_⟩
    have hlt:i.toNat<vs.length:=by omega
    rw [add_mk,Nat.mul_one,h2 _ hlt,List.getElem?_eq_getElem hlt]
end Go.Wc
