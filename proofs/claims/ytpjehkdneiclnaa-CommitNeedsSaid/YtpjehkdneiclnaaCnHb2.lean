import Derived.Test.YtpjehkdneiclnaaCnHb1
set_option linter.unusedSimpArgs false
set_option linter.unusedVariables false
namespace Go.Wc
variable {ν:Type}
def MapR (venc:ν→Value) (h:Hp) (r:Nat) (M:List (Int × ν)):Prop:=
  ∃ es clock,h[r]? =some (.map es clock)∧es.toList.map (fun e=>(e.key,e.val))=M.map fun p=>(Value.int .i64 p.1,venc p.2)
def upd:List (Int × ν)→Int→ν→List (Int × ν)
  | [],k,v=>[(k,v)]
  | (k',v')::M,k,v=>if k=k' then (k,v)::M else (k',v')::upd M k v
def del:List (Int × ν)→Int→List (Int × ν)
  | [],_=>[]
  | (k',v')::M,k=>if k=k' then M else (k',v')::del M k
def look:List (Int × ν)→Int→Option ν
  | [],_=>none
  | (k',v')::M,k=>if k=k' then some v' else look M k
theorem look_upd (M:List (Int × ν)) (k:Int) (v:ν) (k2:Int):look (upd M k v) k2=if k2=k then some v else look M k2:=by
  induction M with
  | nil=>simp [upd,look]
  | cons p M ih =>
    obtain ⟨k',v'⟩:=p
    unfold upd
    by_cases e:k=k'
    · subst e; rw [if_pos rfl]; simp only [look]; split <;> rfl
    · rw [if_neg e]; simp only [look, ih]
      by_cases e2:k2=k'
      · subst e2; rw [if_pos rfl,if_neg (Ne.symm e),if_pos rfl]
      · rw [if_neg e2,if_neg e2]
theorem look_none {M:List (Int × ν)} {k:Int} (h:k ∉ M.map (·.1)):look M k=none:=by
  induction M with
  | nil=>rfl
  | cons p M ih =>
    obtain ⟨k',v'⟩:=p
    simp only [List.map_cons,List.mem_cons,not_or] at h
    simp only [look]; rw [if_neg h.1]; exact ih h.2
theorem look_isSome {M:List (Int × ν)} {k:Int}:(look M k).isSome=true↔k ∈ M.map (·.1):=by
  induction M with
  | nil=>simp [look]
  | cons p M ih =>
    obtain ⟨k',v'⟩:=p
    simp only [look,List.map_cons,List.mem_cons]
    by_cases e:k=k'
    · simp [e]
    · simp [e,ih]
theorem look_del {M:List (Int × ν)} (hn:(M.map (·.1)).Nodup) (k k2:Int):look (del M k) k2=if k2=k then none else look M k2:=by
  induction M with
  | nil=>simp [del,look]
  | cons p M ih =>
    obtain ⟨k',v'⟩:=p
    simp only [List.map_cons,List.nodup_cons] at hn
    unfold del
    by_cases e:k=k'
    · subst e; rw [if_pos rfl]; simp only [look]
      by_cases e2:k2=k
      · subst e2; rw [if_pos rfl]; exact look_none hn.1
      · rw [if_neg e2,if_neg e2]
    · rw [if_neg e]; simp only [look, ih hn.2]
      by_cases e2:k2=k'
      · subst e2; rw [if_pos rfl,if_neg (Ne.symm e),if_pos rfl]
      · rw [if_neg e2,if_neg e2]
theorem keys_upd (M:List (Int × ν)) (k:Int) (v:ν):(upd M k v).map (·.1)=if k ∈ M.map (·.1) then M.map (·.1) else M.map (·.1)++[k]:=by
  induction M with
  | nil=>simp [upd]
  | cons p M ih =>
    obtain ⟨k',v'⟩:=p
    unfold upd
    by_cases e:k=k'
    · subst e; simp
    · rw [if_neg e, List.map_cons, ih]
      simp only [List.map_cons,List.mem_cons,e,false_or]
      split <;> simp
theorem nodup_upd {M:List (Int × ν)} (hn:(M.map (·.1)).Nodup) (k:Int) (v:ν):((upd M k v).map (·.1)).Nodup:=by
  rw [keys_upd]
  split
  · exact hn
  · rename_i h
    rw [List.nodup_append]
    exact ⟨hn,by simp,fun a ha b hb=>by simp at hb; subst hb; exact fun e=>h (e ▸ ha)⟩
theorem del_sub {M:List (Int × ν)} {k:Int}:(del M k).map (·.1)=(M.map (·.1)).erase k:=by
  induction M with
  | nil=>simp [del]
  | cons p M ih =>
    obtain ⟨k',v'⟩:=p
    unfold del
    by_cases e:k=k'
    · subst e; simp
    · rw [if_neg e,List.map_cons,ih,List.map_cons,List.erase_cons_tail (by simpa using fun h=>e h.symm)]
theorem nodup_del {M:List (Int × ν)} (hn:(M.map (·.1)).Nodup) (k:Int):((del M k).map (·.1)).Nodup:=by
  rw [del_sub]; exact hn.erase k
def fiK:List (Int × ν)→Int→Nat→Option (Nat × ν)
  | [],_,_=>none
  | (k',v)::M,k,i=>if k=k' then some (i,v) else fiK M k (i+1)
theorem fiK_look (M:List (Int × ν)) (k:Int) (i:Nat):(fiK M k i).map (·.2)=look M k:=by
  induction M generalizing i with
  | nil=>rfl
  | cons p M ih=>obtain ⟨k',v⟩:=p; simp only [fiK,look]; split <;> first | rfl | exact ih _
theorem mfind_of {venc:ν→Value} {k:Int}: ∀ (es:List MapEntry) (M:List (Int × ν)) (i:Nat),es.map (fun e=>(e.key,e.val))=M.map (fun p=>(Value.int .i64 p.1,venc p.2))→
    mfind (.int .i64) (.int .i64 k) es i=some ((fiK M k i).map fun p=>(p.1,venc p.2))
  | [],[],i,_=>rfl
  | [],_::_,i,h=>by simp at h
  | _::_,[],i,h=>by simp at h
  | e :: es, (k', v) :: M, i, h => by
    simp only [List.map_cons,List.cons.injEq,Prod.mk.injEq] at h
    obtain ⟨⟨h1,h2⟩,h3⟩:=h
    simp only [mfind,h1,sameK,if_true,h2,fiK]
    by_cases e:k=k'
    · subst e; simp
    · have : (k == k') = false := by simpa using e
      simp only [this,if_neg e]
      exact mfind_of es M (i+1) h3
theorem lkW_of {venc:ν→Value} {h:Hp} {r:Nat} {M:List (Int × ν)} {k:Int} {K:(Hp→Prop)→Option Value→Prop} (H:MapR venc h r M)
    (hk: ∀ f:Hp→Prop,(∀ h' M',MapR venc h' r M'→look M' k=look M k→f h')→K f ((look M k).map venc)):lkW (.int .i64) h (some r) (.int .i64 k) K:=by
  obtain ⟨es,clock,h1,h2⟩:=H
  refine ⟨es,clock,h1,_,mfind_of _ _ 0 h2, ?_⟩
  have e: ∀ M:List (Int × ν),Option.map (fun x:Nat × Value=>x.2) ((fiK M k 0).map fun p=>(p.1,venc p.2))=(look M k).map venc:=fun M=>by
    rw [← fiK_look M k 0]; cases fiK M k 0 <;> rfl
  rw [e]
  refine hk _ fun h' M' ⟨es',clock',g1,g2⟩ hl=>⟨es',clock',_,g1,mfind_of _ _ 0 g2, ?_⟩
  rw [e,hl]
theorem getElem_of_fiK {M:List (Int × ν)} {k:Int} {v:ν}: ∀ {i n:Nat},fiK M k n=some (i,v)→n≤i∧i - n<M.length:=by
  induction M with
  | nil=>intro i n h; simp [fiK] at h
  | cons p M ih =>
    obtain ⟨k',v'⟩:=p
    intro i n h
    simp only [fiK] at h
    split at h
    · simp at h; obtain ⟨rfl,rfl⟩:=h; simp
    · obtain ⟨h1,h2⟩:=ih h; exact ⟨by omega,by simp; omega⟩
theorem upd_none {M:List (Int × ν)} {k:Int} {v:ν}: ∀ {n:Nat},fiK M k n=none→upd M k v=M++[(k,v)]:=by
  induction M with
  | nil=>intro n _; rfl
  | cons p M ih =>
    obtain ⟨k',v'⟩:=p
    intro n h
    simp only [fiK] at h
    split at h
    · cases h
    · rename_i e; simp only [upd,if_neg e,ih h,List.cons_append]
theorem upd_some {M:List (Int × ν)} {k:Int} {v u:ν}: ∀ {i n:Nat},fiK M k n=some (i,u)→upd M k v=M.set (i - n) (k,v):=by
  induction M with
  | nil=>intro i n h; simp [fiK] at h
  | cons p M ih =>
    obtain ⟨k',v'⟩:=p
    intro i n h
    simp only [fiK] at h
    split at h
    · rename_i e; simp at h; obtain ⟨rfl,rfl⟩:=h; simp [upd,e]
    · rename_i e
      have:=(getElem_of_fiK h).1
      simp only [upd,if_neg e,ih h]
      rw [show i - n=(i - (n+1))+1 from by omega]; rfl
theorem del_none {M:List (Int × ν)} {k:Int}: ∀ {n:Nat},fiK M k n=none→del M k=M:=by
  induction M with
  | nil=>intro n _; rfl
  | cons p M ih =>
    obtain ⟨k',v'⟩:=p
    intro n h
    simp only [fiK] at h
    split at h
    · cases h
    · rename_i e; simp only [del,if_neg e,ih h]
theorem del_some {M:List (Int × ν)} {k:Int} {u:ν}: ∀ {i n:Nat},fiK M k n=some (i,u)→del M k=M.eraseIdx (i - n):=by
  induction M with
  | nil=>intro i n h; simp [fiK] at h
  | cons p M ih =>
    obtain ⟨k',v'⟩:=p
    intro i n h
    simp only [fiK] at h
    split at h
    · rename_i e; simp at h; obtain ⟨rfl,rfl⟩:=h; simp [del,e]
    · rename_i e
      have:=(getElem_of_fiK h).1
      simp only [del,if_neg e,ih h]
      rw [show i - n=(i - (n+1))+1 from by omega]; rfl
theorem set_get {h:Hp} {r:Nat} {o o':Obj} (hr:h[r]? =some o):(h.setIfInBounds r o')[r]? =some o':=by
  have:=lt_of_get hr
  simp [this]
theorem muW_of {venc : ν → Value} {h : Hp} {r : Nat} {M : List (Int × ν)} {k : Int} {v : ν} {K : Hp → Prop} (H : MapR venc h r M)
    (hk: ∀ h',MapR venc h' r (upd M k v)→Keep [r] h h'→h'.size=h.size→K h'):muW (.int .i64) h (some r) (.int .i64 k) (venc v) K:=by
  obtain ⟨es,clock,h1,h2⟩:=H
  refine ⟨r,rfl,es,clock,h1,_,mfind_of _ _ 0 h2,hk _ ?_ (Keep.set _ (by simp)) (by simp)⟩
  cases hf:fiK M k 0 with
  | none =>
    refine ⟨_,_,set_get h1, ?_⟩
    rw [upd_none hf]
    simp [h2]
  | some p =>
    obtain ⟨i,u⟩:=p
    refine ⟨_,_,set_get h1, ?_⟩
    rw [upd_some hf]
    have hlen:es.toList.length=M.length:=by have:=congrArg List.length h2; simpa using this
    obtain ⟨_,hi⟩:=getElem_of_fiK hf
    apply List.ext_getElem
    · simp; simpa using hlen
    · intro j g1 g2
      simp only [List.length_map,Array.length_toList,Array.size_modify] at g1
      have hj:j<es.toList.length:=g1
      have hjM:j<M.length:=by omega
      have h3:(es.toList[j].key,es.toList[j].val)=(Value.int .i64 M[j].1,venc M[j].2):=by
        have:=List.getElem_of_eq h2 (i:=j) (by simpa using g1)
        simpa using this
      simp only [List.getElem_map,Array.getElem_toList,Array.getElem_modify,List.getElem_set]
      by_cases e:i - 0=j
      · rw [if_pos e,if_pos (by omega)]
      · rw [if_neg e, if_neg (by omega)]
        simpa using h3
theorem map_eraseIdx' {α β:Type} (f:α→β): ∀ (l:List α) (i:Nat),(l.eraseIdx i).map f=(l.map f).eraseIdx i
  | [],_=>rfl
  | _::_,0=>rfl
  | a::l,i+1=>by simp [map_eraseIdx' f l i]
theorem dlW_of {venc:ν→Value} {h:Hp} {r:Nat} {M:List (Int × ν)} {k:Int} {K:Hp→Prop} (H:MapR venc h r M)
    (hk: ∀ h',MapR venc h' r (del M k)→Keep [r] h h'→h'.size=h.size→K h'):dlW (.int .i64) h (some r) (.int .i64 k) K:=by
  obtain ⟨es,clock,h1,h2⟩:=H
  refine ⟨es,clock,h1,_,mfind_of _ _ 0 h2,hk _ ?_ (Keep.set _ (by simp)) (by simp)⟩
  cases hf:fiK M k 0 with
  | none =>
    refine ⟨_,_,set_get h1, ?_⟩
    rw [del_none hf]; exact h2
  | some p =>
    obtain ⟨i,u⟩:=p
    refine ⟨_,_,set_get h1, ?_⟩
    rw [del_some hf]
    have hlen:es.toList.length=M.length:=by have:=congrArg List.length h2; simpa using this
    obtain ⟨_,hi⟩:=getElem_of_fiK hf
    have hi' : i < es.size := by have : es.size = M.length := by simpa using hlen
                                 omega
    simp only [Nat.sub_zero,Array.eraseIdxIfInBounds,hi',dif_pos,Array.toList_eraseIdx]
    rw [map_eraseIdx',map_eraseIdx',h2]
theorem MapR.keep {venc:ν→Value} {h h':Hp} {r:Nat} {M:List (Int × ν)} {F:List Nat} (H:MapR venc h r M) (k:Keep F h h') (hF:r ∉ F):MapR venc h' r M:=by
  obtain ⟨es,clock,h1,h2⟩:=H
  exact ⟨es,clock,k.get h1 hF,h2⟩
theorem MapR.lt {venc:ν→Value} {h:Hp} {r:Nat} {M:List (Int × ν)} (H:MapR venc h r M):r<h.size:=by
  obtain ⟨es,clock,h1,h2⟩:=H; exact lt_of_get h1
theorem MapR.new (venc:ν→Value) (h:Hp):MapR venc (h.push (.map #[] 0)) h.size []:=⟨_,_,push_get _ _,rfl⟩
inductive All2 {α β:Type} (R:α→β→Prop):List α→List β→Prop
  | nil:All2 R [] []
  | cons {a b l m}:R a b→All2 R l m→All2 R (a::l) (b::m)
theorem All2.mono {α β:Type} {R S:α→β→Prop} (h: ∀ a b,R a b→S a b) {l:List α} {m:List β} (H:All2 R l m):All2 S l m:=by
  induction H with
  | nil=>exact .nil
  | cons h1 _ ih=>exact .cons (h _ _ h1) ih
variable {μ:Type}
theorem All2.keys {R:Int × ν→Int × μ→Prop} (hR: ∀ a b,R a b→a.1=b.1) {M:List (Int × ν)} {A:List (Int × μ)} (H:All2 R M A):M.map (·.1)=A.map (·.1):=by
  induction H with
  | nil=>rfl
  | cons h1 _ ih=>simp [hR _ _ h1,ih]
theorem All2.look {R:Int × ν→Int × μ→Prop} (hR: ∀ a b,R a b→a.1=b.1) {M:List (Int × ν)} {A:List (Int × μ)} (H:All2 R M A) (k:Int):
    (look M k=none∧look A k=none)∨ ∃ v u,look M k=some v∧look A k=some u∧R (k,v) (k,u):=by
  induction H with
  | nil=>exact .inl ⟨rfl,rfl⟩
  | @cons a b l m h1 _ ih =>
    obtain ⟨k1,v1⟩:=a; obtain ⟨k2,v2⟩:=b
    have e:=hR _ _ h1
    simp only at e; subst e
    simp only [Wc.look]
    by_cases e:k=k1
    · subst e; rw [if_pos rfl,if_pos rfl]; exact .inr ⟨_,_,rfl,rfl,h1⟩
    · rw [if_neg e,if_neg e]; exact ih
theorem All2.upd {R:Int × ν→Int × μ→Prop} (hR: ∀ a b,R a b→a.1=b.1) {M:List (Int × ν)} {A:List (Int × μ)} (H:All2 R M A) {k:Int} {v:ν} {u:μ} (hv:R (k,v) (k,u)):
    All2 R (upd M k v) (upd A k u):=by
  induction H with
  | nil=>exact .cons hv .nil
  | @cons a b l m h1 h2 ih =>
    obtain ⟨k1,v1⟩:=a; obtain ⟨k2,v2⟩:=b
    have e:=hR _ _ h1
    simp only at e; subst e
    simp only [Wc.upd]
    split
    · exact .cons hv h2
    · exact .cons h1 ih
theorem All2.del {R:Int × ν→Int × μ→Prop} (hR: ∀ a b,R a b→a.1=b.1) {M:List (Int × ν)} {A:List (Int × μ)} (H:All2 R M A) (k:Int):
    All2 R (del M k) (del A k):=by
  induction H with
  | nil=>exact .nil
  | @cons a b l m h1 h2 ih =>
    obtain ⟨k1,v1⟩:=a; obtain ⟨k2,v2⟩:=b
    have e:=hR _ _ h1
    simp only at e; subst e
    simp only [Wc.del]
    split
    · exact h2
    · exact .cons h1 ih
end Go.Wc
