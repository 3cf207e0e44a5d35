import Derived.Test.YtpjehkdneiclnaaCnPu6
set_option linter.unusedSimpArgs false
set_option linter.unusedVariables false
namespace Go.Pu
open Go Go.Wc
variable {κ V:Type} [DecidableEq κ]
theorem mem_look {L:List (κ × V)} {k:κ}:look L k ≠ none↔k ∈ L.map (·.1):=by
  induction L with
  | nil=>simp [look]
  | cons x L ih =>
    obtain ⟨a,v⟩:=x
    simp only [look,List.map_cons,List.mem_cons]
    by_cases h:k=a
    · simp [h]
    · simp [h,ih]
theorem look_upd (L : List (κ × V)) (k : κ) (v : V) (j : κ) : look (upd L k v) j = if j = k then some v else look L j := by
  induction L with
  | nil=>simp only [upd,look]
  | cons x L ih =>
    obtain ⟨a,w⟩:=x
    simp only [upd]
    by_cases h:k=a
    · subst h
      rw [if_pos rfl]
      simp only [look]
      split <;> rfl
    · rw [if_neg h]
      simp only [look,ih]
      by_cases h2:j=a
      · subst h2
        rw [if_pos rfl,if_pos rfl,if_neg (fun e=>h e.symm)]
      · rw [if_neg h2,if_neg h2]
theorem look_del {L : List (κ × V)} (hn : (L.map (·.1)).Nodup) (k j : κ) : look (del L k) j = if j = k then none else look L j := by
  induction L with
  | nil=>simp [del,look]
  | cons x L ih =>
    obtain ⟨a,w⟩:=x
    rw [List.map_cons,List.nodup_cons] at hn
    simp only [del]
    by_cases h:k=a
    · subst h
      rw [if_pos rfl]
      simp only [look]
      by_cases h2:j=k
      · subst h2
        rw [if_pos rfl]
        cases e:look L j with
        | none=>rfl
        | some v=>exact absurd (mem_look.1 (by rw [e]; simp)) hn.1
      · rw [if_neg h2,if_neg h2]
    · rw [if_neg h]
      simp only [look,ih hn.2]
      by_cases h2:j=a
      · subst h2
        rw [if_pos rfl,if_pos rfl,if_neg (fun e=>h e.symm)]
      · rw [if_neg h2,if_neg h2]
theorem keys_upd (L:List (κ × V)) (k:κ) (v:V):(upd L k v).map (·.1)=if k ∈ L.map (·.1) then L.map (·.1) else L.map (·.1)++[k]:=by
  induction L with
  | nil=>simp [upd]
  | cons x L ih =>
    obtain ⟨a,w⟩:=x
    simp only [upd]
    by_cases h:k=a
    · subst h; simp
    · rw [if_neg h]
      simp only [List.map_cons,List.mem_cons,h,false_or,ih]
      split <;> simp
theorem nodup_upd {L:List (κ × V)} (hn:(L.map (·.1)).Nodup) (k:κ) (v:V):((upd L k v).map (·.1)).Nodup:=by
  rw [keys_upd]
  split
  · exact hn
  · rename_i h
    rw [List.nodup_append]
    refine ⟨hn,by simp,fun a ha b hb=> ?_⟩
    rw [List.mem_singleton] at hb
    subst hb
    intro e; subst e; exact h ha
theorem keys_del (L:List (κ × V)) (k:κ):(del L k).map (·.1)=(L.map (·.1)).erase k:=by
  induction L with
  | nil=>simp [del]
  | cons x L ih =>
    obtain ⟨a,w⟩:=x
    simp only [del]
    by_cases h:k=a
    · subst h; simp
    · rw [if_neg h]
      simp only [List.map_cons,ih]
      rw [List.erase_cons_tail (by simp; exact fun e=>h e.symm)]
theorem ixP_of {X:Type} {l:List X} {i:Int} {x:X} {K:X→Prop} (h0:0≤i) (hx:l[i.toNat]? =some x) (H:K x):ixP l i K:=⟨h0,x,hx,H⟩
theorem ixP_nat {X:Type} {l:List X} {i:Nat} {x:X} {K:X→Prop} (hx:l[i]? =some x) (H:K x):ixP l (i:Int) K:=⟨by omega,x,by rw [Int.toNat_natCast]; exact hx,H⟩
theorem mid_get {X:Type} {acc rest:List X} {x:X}:(acc++x::rest)[acc.length]? =some x:=by rw [List.getElem?_append_right (Nat.le_refl _)]; simp
theorem ixP_keep {X:Type} {l:List X} {i:Int} {K:X→Prop} (H:ixP l i K):ixP l i (fun x=>l[i.toNat]? =some x∧K x):=by
  obtain ⟨h0,x,hx,hK⟩:=H
  exact ⟨h0,x,hx,hx,hK⟩
theorem el_keep {X:Type} {E:Rp X} {h:Hp} {A:List At} {a':At} {a:Option Addr} {n c:Nat} {l:List X} {i:Int} {p:Addr} {x:X} {v:Value} (hX:Rd E a' a n c l) (I:Inv h (a'::A)) (hE:E.n=1) (he:EAdr a 1 i p) (hb:0≤i∧i<l.length) (hg:l[i.toNat]? =some x)
    (hv: ∀ M vs,E.P h M vs x→vs=[v]):hcell h p=some v:=by
  have H:ixP l i (fun y=>y=x):=⟨hb.1,x,hg,rfl⟩
  have key:=ix_r (K:=fun q=>hcell h q=some v) hX I (by omega) H fun q vs y hq _ hc J hy=>by
    subst hy
    obtain ⟨F,M,_,e⟩:=J.get
    have e:=hv _ _ e
    subst e
    have:=hc 0 _ rfl
    obtain ⟨z,hz,rfl⟩:=hq
    simpa [Addr.add] using this
  obtain ⟨y,rfl,rfl⟩:=he
  rw [hE] at key
  obtain ⟨w,hw,_,key⟩:=key
  cases hw
  exact key
def Seg.okB:Seg→Bool
  | .one v=>v.oneCell'
  | .vec _ _ _=>true
theorem all_segs {ss : List Seg} (h : ss.all Seg.okB = true) : ∀ v ∈ segs ss, v.oneCell' = true := by
  induction ss with
  | nil=>intro v hv; simp [segs] at hv
  | cons s ss ih =>
    rw [List.all_cons,Bool.and_eq_true] at h
    intro v hv
    have e:segs (s::ss)=s.cells++segs ss:=by simp [segs]
    rw [e,List.mem_append] at hv
    rcases hv with hv | hv
    · cases s with
      | one w =>
        have:v=w:=by simpa [Seg.cells] using hv
        subst this; exact h.1
      | vec k n w =>
        have:=allOne_lump k n w.toList
        exact all_one this v (by simpa [Seg.cells] using hv)
    · exact ih h.2 v hv
theorem rd_sub {X:Type} {E:Rp X} {a':At} {a:Option Addr} {nl n2 c:Nat} {l:List X} {lo hi:Int} (hX:Rd E a' a nl c l) (H:SlOk l lo hi) (hn:n2=(sub l lo hi).length):Rd E a' (resl a c E.n lo) n2 (c - lo.toNat) (sub l lo hi):=by
  intro h F M hP
  refine ⟨hn, ?_⟩
  obtain ⟨_,vs,g1,g2,g3⟩:=hX hP
  obtain ⟨h0,h1,h2⟩:=H
  obtain ⟨k1,k2⟩:=slv_sub g1 h0 h1 h2 g2
  have hsl:=sub_length (l:=l) ⟨h0,h1,h2⟩
  exact ⟨_,by rw [hsl]; exact k1,by rw [hsl]; exact k2,g3.sub (by omega) (by omega)⟩
theorem slw_own {X:Type} {E:Rp X} {h:Hp} {A:List At} {a:Option Addr} {nl c:Nat} {l:List X} {lo hi:Int} {n:Nat} {K:Sl→Prop} (I:Inv h (ownS E a nl c l::A)) (H:SlOk l lo hi) (k:K ⟨resl a c n lo,(sub l lo hi).length,c - lo.toNat⟩):slW ⟨a,nl,c⟩ lo hi n K:=by
  obtain rfl:=own_len I
  obtain ⟨F,M,_,T,vs,g1,g2⟩:=I.get
  exact sl_step H g1.2.1 k
def dedT:Int→List Int→List Int
  | _,[]=>[]
  | y,x::l=>if x=y then dedT x l else x::dedT x l
def dedA:List Int→List Int
  | []=>[]
  | x::l=>x::dedT x l
def compactP (l:List Int) (Q:List Int→Prop):Prop:=Bnd l.length∧Q (dedA l)
end Go.Pu
