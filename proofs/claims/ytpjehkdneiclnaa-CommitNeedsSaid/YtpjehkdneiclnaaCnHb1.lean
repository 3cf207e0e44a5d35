import Derived.Test.YtpjehkdneiclnaaCnHb0
set_option linter.unusedSimpArgs false
set_option linter.unusedVariables false
namespace Go.Wc
def Own (h : Hp) (s : Sl) (T m : Nat) (vs : List Value) (F : List Nat) : Prop :=
  vs.length=s.len*m∧s.len≤s.cap∧match s.a with
    | none=>s.cap=0∧F=[]
    | some a=>F=[a.block]∧a.spot=none∧ ∃ pre post z,h[a.block]? =some (.cells (pre++vs++post).toArray T z)∧pre.length=a.off∧
        s.cap*m≤vs.length+post.length∧(z.2≤a.off∨a.off+s.cap*m≤z.1)
theorem Own.nil (h:Hp) (T m:Nat):Own h ⟨none,0,0⟩ T m [] []:=⟨by simp,Nat.le_refl _,rfl,rfl⟩
theorem Own.slv {h:Hp} {s:Sl} {T m:Nat} {vs:List Value} {F:List Nat} (H:Own h s T m vs F):SlV h s m vs:=by
  obtain ⟨h1,h2,h3⟩:=H
  refine ⟨h1, ?_⟩
  cases ha:s.a with
  | none =>
    rw [ha] at h3
    obtain ⟨h3,_⟩:=h3
    have : vs.length = 0 := by rw [h1]; have : s.len = 0 := by omega
                               rw [this]; simp
    exact List.length_eq_zero_iff.1 this
  | some a =>
    rw [ha] at h3
    obtain ⟨_,hs,pre,post,z,hb,hp,_,_⟩:=h3
    refine ⟨fun _=>hs,fun i hi=> ?_⟩
    rw [hcell_of hb,← hp]
    simp only [List.getElem?_toArray,List.append_assoc]
    rw [List.getElem?_append_right (by omega),Nat.add_sub_cancel_left,List.getElem?_append_left hi,List.getElem?_eq_getElem hi]
theorem Own.keep {h h':Hp} {s:Sl} {T m:Nat} {vs:List Value} {F G:List Nat} (H:Own h s T m vs F) (k:Keep G h h') (hF: ∀ b ∈ F,b ∉ G):Own h' s T m vs F:=by
  obtain ⟨h1,h2,h3⟩:=H
  refine ⟨h1,h2, ?_⟩
  cases ha:s.a with
  | none=>rw [ha] at h3; exact h3
  | some a =>
    rw [ha] at h3
    obtain ⟨hf,hs,pre,post,z,hb,h4⟩:=h3
    exact ⟨hf,hs,pre,post,z,k.get hb (hF _ (by rw [hf]; simp)),h4⟩
theorem Own.lt {h:Hp} {s:Sl} {T m:Nat} {vs:List Value} {F:List Nat} (H:Own h s T m vs F): ∀ b ∈ F,b<h.size:=by
  obtain ⟨h1,h2,h3⟩:=H
  cases ha:s.a with
  | none=>rw [ha] at h3; rw [h3.2]; intro b hb; cases hb
  | some a =>
    rw [ha] at h3
    obtain ⟨hf,hs,pre,post,z,hb,_⟩:=h3
    rw [hf]; intro b hb'
    simp at hb'; subst hb'
    exact lt_of_get hb
theorem Own.sa {h:Hp} {s:Sl} {T m:Nat} {vs:List Value} {F:List Nat} (H:Own h s T m vs F): ∀ a,s.a=some a→F=[a.block]:=by
  intro a ha
  have h3:=H.2.2
  rw [ha] at h3; exact h3.1
theorem set_mid {α:Type} (pre post:List α) (u v:α):(pre++u::post).toArray.setIfInBounds pre.length v=(pre++v::post).toArray:=by
  apply Array.ext'
  simp
theorem st_mid {h:Hp} {b T:Nat} {pre post:List Value} {u v:Value} {z:Nat × Nat} {o:Nat} {K:Hp→Prop} (hb:h[b]? =some (.cells (pre++u::post).toArray T z))
    (ho:pre.length=o) (hz:o<z.1∨z.2≤o) (hk: ∀ h',h'[b]? =some (.cells (pre++v::post).toArray T z)→Keep [b] h h'→h'.size=h.size→K h'):st h ⟨b,o,none⟩ v K:=by
  refine st_of hb (by simp; omega) hz (hk _ ?_ (Keep.hset _ (by simp)) (by simp [hset]))
  rw [hset_get v hb,← ho,set_mid]
theorem stV_of {h:Hp} {a:Addr} {v:Value} {K:Hp→Prop} (hv:v.oneCell'=true) (hk:st h a v K):stV h a v K:=by
  cases v <;> first | exact hk | simp [Value.oneCell'] at hv
theorem stAll_mid {b T:Nat} {z:Nat × Nat} {off:Nat} {K:Hp→Prop}: ∀ (ws old:List Value) (h:Hp) (pre post:List Value) (i:Nat),h[b]? =some (.cells (pre++old++post).toArray T z)→
    old.length=ws.length→pre.length=off+i→(z.2≤off+i∨off+i+ws.length≤z.1)→(∀ v ∈ ws,v.oneCell'=true)→
    (∀ h',h'[b]? =some (.cells (pre++ws++post).toArray T z)→Keep [b] h h'→h'.size=h.size→K h')→stAll h ⟨b,off,none⟩ i ws K
  | [], old, h, pre, post, i, hb, hl, hp, hz, h1, hk => by
    have:old=[]:=List.length_eq_zero_iff.1 (by simpa using hl)
    subst this
    exact hk h hb (Keep.refl _ _) rfl
  | w::ws,[],h,pre,post,i,hb,hl,hp,hz,h1,hk=>by simp at hl
  | w :: ws, u :: old, h, pre, post, i, hb, hl, hp, hz, h1, hk => by
    simp only [stAll,add_mk]
    refine stV_of (h1 w (by simp)) (st_mid (pre:=pre) (post:=old++post) (u:=u) (by simpa using hb) hp (by simp at hz; omega) fun h' hb' k' hs'=> ?_)
    refine stAll_mid ws old h' (pre++[w]) post (i+1) (by simpa using hb') (by simpa using hl) (by simp; omega) (by simp at hz ⊢; omega) (fun v hv=>h1 v (by simp [hv])) fun h'' hb'' k'' hs''=> ?_
    exact hk h'' (by simpa using hb'') (k'.trans k'' fun b hb=> .inl hb) (by omega)
theorem zeros_len (z:Value) (n:Nat):(zeros z n).length=n*z.cells.size:=by
  simp [zeros,List.length_flatten]
theorem nextcap (n c : Nat) (hc : c < n) : Builtin.nextslicecap n c ≤ 2 * n + 192 := by
  unfold Builtin.nextslicecap
  split
  · omega
  · split
    · omega
    · have key : ∀ (k c : Nat), c ≤ n + n / 4 + 192 → (c < n → True) → Builtin.growBy n k c ≤ n + n / 4 + 192 := by
        intro k
        induction k with
        | zero=>intro c hc _; simpa [Builtin.growBy] using hc
        | succ k ih =>
          intro c hc _
          unfold Builtin.growBy
          split
          · exact hc
          · exact ih _ (by omega) (fun _=>trivial)
      have:=key 4 c (by omega) (fun _=>trivial)
      omega
theorem apV_own {T m bytes:Nat} {z:Value} {h:Hp} {s:Sl} {n:Nat} {vs ws:List Value} {F:List Nat} {Q:Sl→Hp→Prop} (hO:Own h s T m vs F) (hw:ws.length=n*m)
    (h1: ∀ v ∈ ws,v.oneCell'=true) (hz:z.cells.size=m) (hb:bytes ≠ 0) (hbd:(2*(s.len+n)+192)*bytes≤2 ^ 48)
    (k: ∀ s' h' F',Own h' s' T m (vs++ws) F'→s'.len=s.len+n→Keep F h h'→(∀ b ∈ F',b ∈ F∨h.size≤b)→
      (s.len+n≤s.cap→s'=⟨s.a,s.len+n,s.cap⟩∧F'=F∧h'.size=h.size)→Q s' h'):apV T m bytes z h s n ws Q:=by
  unfold apV
  have hv:=hO.slv
  obtain ⟨o1,o2,o3⟩:=hO
  by_cases hc:s.len+n≤s.cap
  · rw [if_pos hc]
    cases ha:s.a with
    | none =>
      rw [ha] at o3
      obtain ⟨o3,rfl⟩:=o3
      have hn:n=0:=by omega
      have hsl:s.len=0:=by omega
      subst hn
      have e1:ws=[]:=List.length_eq_zero_iff.1 (by simpa using hw)
      have e2:vs=[]:=List.length_eq_zero_iff.1 (by rw [o1,hsl]; simp)
      subst e1 e2
      exact k _ _ [] ⟨by simp [hsl],by simp [hsl],by simp [o3]⟩ (by simp) (Keep.refl _ _) (fun b hb=>by cases hb) (fun _=>⟨by simp [ha],rfl,rfl⟩)
    | some a =>
      rw [ha] at o3
      obtain ⟨b,o,sp⟩:=a
      obtain ⟨hf,hs,pre,post,fz,hbk,hp,hl,hz2⟩:=o3
      simp only at hs hp hbk hf hz2; subst hs
      have hmul:(s.len+n)*m≤s.cap*m:=Nat.mul_le_mul_right _ hc
      rw [Nat.add_mul] at hmul
      simp only [add_mk]
      refine stAll_mid ws (post.take (n*m)) h (pre++vs) (post.drop (n*m)) 0 (by rw [List.append_assoc,List.take_append_drop]; exact hbk) (by simp; omega) (by simp; omega) (by omega) h1 fun h' hb' k' hs'=> ?_
      refine k ⟨some ⟨b,o,none⟩,s.len+n,s.cap⟩ h' [b] ⟨by simp [o1,hw,Nat.add_mul],hc,rfl,rfl,pre,post.drop (n*m),fz,by simpa using hb',hp,by simp; omega,hz2⟩ rfl (by rw [hf]; exact k') (fun b' hb=> .inl (by rw [hf]; exact hb)) (fun _=>⟨by simp [ha],hf.symm,hs'⟩)
  · rw [if_neg hc]
    refine ⟨hb, ?_,vs,hv.cellsAt,fun c hcge=> ?_⟩
    · exact Nat.le_trans (Nat.mul_le_mul_right _ (nextcap _ _ (by omega))) hbd
    · have hlen : (zeros z (c - (s.len + n))).length = c * m - (s.len + n) * m := by rw [zeros_len, hz, Nat.sub_mul]
      have hmul:(s.len+n)*m≤c*m:=Nat.mul_le_mul_right _ hcge
      refine k _ _ [h.size] ⟨by simp [o1,hw,Nat.add_mul],hcge,rfl,rfl,[],zeros z (c - (s.len+n)),(0,0),by simp,rfl, ?_, .inl (Nat.le_refl _)⟩ rfl (Keep.push _ _ _) (fun b hb=> .inr (by simp at hb; omega)) (fun h=>absurd h hc)
      simp only [List.length_append,hlen]
      rw [Nat.add_mul] at hmul ⊢
      omega
theorem apW_own {T m bytes:Nat} {z:Value} {h:Hp} {s x:Sl} {vs ws:List Value} {F:List Nat} {Q:Sl→Hp→Prop} (hO:Own h s T m vs F) (hx:SlV h x m ws)
    (h1: ∀ v ∈ ws,v.oneCell'=true) (hz:z.cells.size=m) (hb:bytes ≠ 0) (hbd:(2*(s.len+x.len)+192)*bytes≤2 ^ 48)
    (k: ∀ s' h' F',Own h' s' T m (vs++ws) F'→s'.len=s.len+x.len→Keep F h h'→(∀ b ∈ F',b ∈ F∨h.size≤b)→
      (s.len+x.len≤s.cap→s'=⟨s.a,s.len+x.len,s.cap⟩∧F'=F∧h'.size=h.size)→Q s' h'):apW T m bytes z h s x Q:=
  ⟨ws,hx.cellsAt,apV_own hO hx.1 h1 hz hb hbd k⟩
theorem own_new {h:Hp} {T m n:Nat} {vs:List Value} (hl:vs.length=n*m):Own (h.push (.cells vs.toArray T (0,0))) ⟨some ⟨h.size,0,none⟩,n,n⟩ T m vs [h.size]:=
  ⟨hl,Nat.le_refl _,rfl,rfl,[],[],(0,0),by simp,rfl,by simp [hl], .inl (Nat.le_refl _)⟩
theorem Own.take {h : Hp} {s : Sl} {T m : Nat} {vs : List Value} {F : List Nat} (H : Own h s T m vs F) {i : Nat} (hi : i ≤ s.len) : Own h ⟨s.a, i, s.cap⟩ T m (vs.take (i * m)) F := by
  obtain ⟨h1,h2,h3⟩:=H
  have hm:i*m≤s.len*m:=Nat.mul_le_mul_right _ hi
  refine ⟨by simp; omega,Nat.le_trans hi h2, ?_⟩
  cases ha:s.a with
  | none=>rw [ha] at h3; exact h3
  | some a =>
    rw [ha] at h3
    obtain ⟨hf,hs,pre,post,z,hb,hp,hl,hz⟩:=h3
    refine ⟨hf,hs,pre,vs.drop (i*m)++post,z, ?_,hp, ?_,hz⟩
    · rw [hb,show pre++vs++post=pre++List.take (i*m) vs++(List.drop (i*m) vs++post) from by
        conv=>lhs; rw [← List.take_append_drop (i*m) vs]
        simp only [List.append_assoc]]
    · simp; omega
theorem SlV.drop {h:Hp} {s:Sl} {m:Nat} {vs:List Value} (H:SlV h s m vs) {j:Nat} (c:Nat):SlV h ⟨s.a.map (·.add (j*m)),s.len - j,c⟩ m (vs.drop (j*m)):=by
  obtain ⟨h1,h2⟩:=H
  refine ⟨by simp [h1,Nat.sub_mul], ?_⟩
  cases ha:s.a with
  | none=>rw [ha] at h2; simp only at h2; subst h2; simp
  | some a =>
    rw [ha] at h2
    obtain ⟨b,o,sp⟩:=a
    obtain ⟨hsp,h2⟩:=h2
    simp only [Option.map_some]
    have e:vs.drop (j*m) ≠ []→sp=none:=fun hne=>hsp (by rintro rfl; simp at hne)
    refine ⟨fun hne=>by rw [e hne,add_mk],fun i hi=> ?_⟩
    rw [e (by intro e2; rw [e2] at hi; cases hi),add_mk]
    simp only [List.length_drop] at hi
    rw [Nat.add_assoc,h2 (j*m+i) (by omega)]
    simp
theorem SlV.zero {h:Hp} {s:Sl} {m:Nat} {vs:List Value} (H:SlV h s m vs) (c:Nat):SlV h ⟨s.a,0,c⟩ m []:=by
  obtain ⟨h1,h2⟩:=H
  refine ⟨by simp, ?_⟩
  cases ha:s.a with
  | none=>rfl
  | some a=>exact ⟨fun h=>absurd rfl h,fun i hi=>by simp at hi⟩
theorem SlV.take {h:Hp} {s:Sl} {m:Nat} {vs:List Value} (H:SlV h s m vs) {i:Nat} (hi:i≤s.len) (c:Nat):SlV h ⟨s.a,i,c⟩ m (vs.take (i*m)):=by
  obtain ⟨h1,h2⟩:=H
  have hm:i*m≤s.len*m:=Nat.mul_le_mul_right _ hi
  refine ⟨by simp; omega, ?_⟩
  cases ha:s.a with
  | none=>rw [ha] at h2; simp only at h2; subst h2; simp
  | some a =>
    rw [ha] at h2
    exact ⟨fun h=>h2.1 (by rintro rfl; simp at h),fun j hj=>by simp only [List.length_take] at hj; rw [h2.2 j (by omega)]; simp⟩
theorem slW_slv {h:Hp} {s:Sl} {m:Nat} {vs:List Value} {lo hi:Int} {K:Sl→Prop} (H:SlV h s m vs) (h0:0≤lo) (h1:lo≤hi) (h2:hi≤s.len) (hc:s.len≤s.cap)
    (k: ∀ s':Sl,SlV h s' m ((vs.take (hi.toNat*m)).drop (lo.toNat*m))→s'.len=hi.toNat - lo.toNat→s'.len≤s'.cap→
      (s'.a=s.a∨s'.a=s.a.map (·.add (lo.toNat*m)))→s'.cap=s.cap - lo.toNat→K s'):slW s lo hi m K:=by
  refine ⟨⟨by omega,by omega⟩,⟨h0,h1⟩, ?_⟩
  by_cases e:s.cap=lo.toNat
  · rw [if_pos e]
    have e2:hi.toNat=lo.toNat:=by omega
    refine k _ ?_ rfl (by simp; omega) (.inl rfl) rfl
    have hz:List.drop (lo.toNat*m) (List.take (hi.toNat*m) vs)=[]:=by rw [e2]; simp
    rw [hz,e2,Nat.sub_self]
    exact H.zero _
  · rw [if_neg e]
    refine k _ ?_ rfl (by simp; omega) (.inr rfl) rfl
    have:=(H.take (i:=hi.toNat) (by omega) s.cap).drop (j:=lo.toNat) (s.cap - lo.toNat)
    exact this
theorem own_st {h : Hp} {s : Sl} {T : Nat} {vs : List Value} {F : List Nat} {i : Int} {v : Value} {K : Hp → Prop} (H : Own h s T 1 vs F) (h0 : 0 ≤ i) (hi : i < vs.length)
    (k: ∀ h',Own h' s T 1 (vs.set i.toNat v) F→Keep F h h'→h'.size=h.size→K h'):ixW s.a s.len i 1 fun p=>st h (p.add 0) v K:=by
  obtain ⟨h1,h2,h3⟩:=H
  cases ha:s.a with
  | none=>rw [ha] at h3; omega
  | some a =>
    rw [ha] at h3
    obtain ⟨b,o,sp⟩:=a
    obtain ⟨hf,hs,pre,post,z,hb,hp,hl,hz⟩:=h3
    simp only at hs hb hp hf hz; subst hs
    refine ⟨_,rfl,⟨h0,by omega⟩, ?_⟩
    simp only [add_mk,Nat.mul_one,Nat.add_zero]
    have hlt:i.toNat<vs.length:=by omega
    have hsplit:vs=vs.take i.toNat++vs[i.toNat]::vs.drop (i.toNat+1):=by
      rw [← List.drop_eq_getElem_cons hlt,List.take_append_drop]
    refine st_mid (pre:=pre++vs.take i.toNat) (post:=vs.drop (i.toNat+1)++post) (u:=vs[i.toNat]) (T:=T) (z:=z) ?_ (by simp; omega) (by omega) fun h' hb' k' hs'=> ?_
    · rw [hb,show pre++vs++post=pre++List.take i.toNat vs++vs[i.toNat]::(List.drop (i.toNat+1) vs++post) from by
        conv=>lhs; rw [hsplit]
        simp only [List.append_assoc,List.cons_append]]
    · refine k h' ⟨by simp [h1], h2, ?_⟩ (by rw [hf]; exact k') hs'
      rw [ha]
      refine ⟨hf,rfl,pre,post,z, ?_,hp,by simp; omega,hz⟩
      rw [hb']
      congr 2
      rw [List.set_eq_take_append_cons_drop,if_pos hlt]
      simp
theorem slW_own {h:Hp} {s:Sl} {T m:Nat} {vs:List Value} {F:List Nat} {lo hi:Int} {K:Sl→Prop} (H:Own h s T m vs F) (h0:0≤lo) (h1:lo≤hi) (h2:hi≤s.len)
    (k: ∀ s':Sl,Own h s' T m ((vs.take (hi.toNat*m)).drop (lo.toNat*m)) F→s'.len=hi.toNat - lo.toNat→s'.cap=s.cap - lo.toNat→K s'):slW s lo hi m K:=by
  obtain ⟨g1,g2,g3⟩:=H
  have e1:hi.toNat*m≤s.len*m:=Nat.mul_le_mul_right _ (by omega)
  have e2:lo.toNat*m≤hi.toNat*m:=Nat.mul_le_mul_right _ (by omega)
  have e3:hi.toNat*m≤s.cap*m:=Nat.mul_le_mul_right _ (by omega)
  refine ⟨⟨by omega,by omega⟩,⟨h0,h1⟩, ?_⟩
  have hcm:(s.cap - lo.toNat)*m=s.cap*m - lo.toNat*m:=by rw [Nat.sub_mul]
  refine k _ ⟨by simp [Nat.sub_mul]; omega,by simp; omega, ?_⟩ rfl rfl
  cases ha:s.a with
  | none =>
    rw [ha] at g3
    simp only [Option.map_none,ite_self]
    exact ⟨by omega,g3.2⟩
  | some a =>
    rw [ha] at g3
    obtain ⟨b,o,sp⟩:=a
    obtain ⟨hf,hs,pre,post,z,hb,hp,hl,hz⟩:=g3
    simp only at hs hb hp hf hz; subst hs
    have hsp:vs=vs.take (lo.toNat*m)++((vs.take (hi.toNat*m)).drop (lo.toNat*m)++vs.drop (hi.toNat*m)):=by
      conv=>lhs; rw [← List.take_append_drop (hi.toNat*m) vs,← List.take_append_drop (lo.toNat*m) (vs.take (hi.toNat*m)),List.take_take,Nat.min_eq_left e2]
      rw [List.append_assoc]
    by_cases e:s.cap=lo.toNat
    · rw [if_pos e]
      have e4:hi.toNat=lo.toNat:=by omega
      rw [e4,e,Nat.sub_self,Nat.zero_mul]
      simp only
      refine ⟨hf,trivial,pre,vs++post,z, ?_,hp,Nat.zero_le _,by rw [e] at hz; omega⟩
      rw [hb,List.drop_eq_nil_of_le (by simp; omega)]
      simp
    · rw [if_neg e]
      simp only [Option.map_some,add_mk]
      refine ⟨hf,trivial,pre++vs.take (lo.toNat*m),vs.drop (hi.toNat*m)++post,z, ?_,by simp [hp]; omega,by simp; omega,by omega⟩
      rw [hb]
      congr 2
      conv=>lhs; rw [hsp]
      simp only [List.append_assoc]
end Go.Wc
