import Derived.Test.YtpjehkdneiclnaaGreatCpB
import Derived.Shelf.SlIterI.Nil
set_option linter.unusedVariables false
set_option linter.unusedSimpArgs false
set_option maxHeartbeats 4000000
set_option maxRecDepth 100000
namespace Go.Wc
open Go Go.Sort Go.Proofs Go.Shelf Go.Maps Go.WideShapes
open Go.WideElems (Fit rd rg pl)
theorem vn {w:World} {b:Nat} {v:Value} (h:hcell w.heap ⟨b,0,none⟩=some v):w.cell? ⟨b,0,none⟩=some v∧b<w.heap.size:=by
  refine ⟨h, ?_⟩
  unfold hcell at h
  cases e:w.heap[b]? with
  | none=>simp only [e] at h; cases h
  | some o=>exact (Array.getElem?_eq_some_iff.1 e).1
theorem Ap {l m:List Int} (h:l.Perm m):l.mergeSort (fun x y=>decide (x≤y))=m.mergeSort (fun x y=>decide (x≤y)):=by
  have tr: ∀ a b c:Int,decide (a≤b)=true→decide (b≤c)=true→decide (a≤c)=true:=by intro a b c; simp; omega
  have to: ∀ a b:Int,(decide (a≤b) || decide (b≤a))=true:=by intro a b; simp; omega
  refine List.Perm.eq_of_pairwise (le:=fun x y:Int=>x≤y) (fun a b _ _ h1 h2=>Int.le_antisymm h1 h2) ?_ ?_ (((List.mergeSort_perm l _).trans h).trans (List.mergeSort_perm m _).symm)
  · exact (List.pairwise_mergeSort tr to l).imp fun h=>by simpa using h
  · exact (List.pairwise_mergeSort tr to m).imp fun h=>by simpa using h
theorem uI {P : Program} {R : Ren} {ρ : Ids} {gs : List Nat} (L6 : SlLaysZI.n6 P R) (hsort : ∀ m, AnyZI.SortsIn P R Fence.wide m) (e9 : ∀ args w, (callFunc (R.f 9) args).run P w = .ok (.enter (R.f 9) args) w)
    (hk: ∀ k ∈ gs,∃ R':Ren,SlLaysZI.n10 P R'∧R'.f 10=ρ.G k∧(∀ args w,(callFunc (ρ.G k) args).run P w= .ok (.enter (ρ.G k) args) w)) (hc:Callable P (R.f 6)):SpecOk P (R.f 6) (Tx.fO gs ρ):=by
  refine ⟨hc,fun args K w H=> ?_⟩
  unfold Tx.fO at H
  obtain ⟨f,rr,rfl,H2⟩:=Mi H
  obtain ⟨rfl,H3⟩:=cA H2
  obtain ⟨k,b,m,hkg,rfl,hb,HH⟩:=(H3:Tx.iF gs ρ f w.heap (fun s h=>K (.slice s.a s.len s.cap) h))
  clear H H2
  obtain ⟨R',L10,e10,eg⟩:=hk k hkg
  obtain ⟨hbc,hbl⟩:=vn hb
  have fin: ∀ (S:List Int→Prop) (N:Nat),N≤4294967296→SeqGives Fence.wide 2 P (ρ.G k) #[.pointer (some ⟨b,0,none⟩)] encZ S N w→
      (∀ ss (h':Hp) (s:Sl),S ss→(ss=[]→s=⟨none,0,0⟩)→w.heap.size≤h'.size→(∀ b,b<w.heap.size→h'[b]? =w.heap[b]?)→Tx.sortedOut w.heap h' s (ss.mergeSort fun x y=>decide (x≤y))→K (.slice s.a s.len s.cap) h')→
      Calls P (R.f 6) #[.func (.func (ρ.G k)) #[] #[.pointer (some ⟨b,0,none⟩)]] w fun e w'=> ∃ v,e= .returned v∧Same w w'∧K v w'.heap:=by
    intro S N hN hseq hK
    have cS:=AnyZI.sorted_in L6 Fence.wide 5 trivial trivial trivial trivial rfl (by omega) (hsort _) e9 (ρ.G k) #[.pointer (some ⟨b,0,none⟩)] trivial eg S N (by unfold maxLen; omega) (by omega) w hseq
    refine (callsIn_wide.1 cS).mono ?_
    rintro e w' ⟨v,ss,rfl,hS,hrow,hnil,hB⟩
    obtain ⟨hl,hrow⟩:=hrow
    refine ⟨v,rfl,⟨hB.os,hB.output,hB.tape⟩, ?_⟩
    have hlen:(ss.mergeSort fun x y=>decide (x≤y)).length=ss.length:=by simp
    rcases hrow with ⟨rfl,h0⟩ | ⟨g,cap,cur,rfl,hg,hgc,h1,h2,h3,h4⟩
    · have : ss = [] := List.eq_nil_of_length_eq_zero h0
      subst this
      exact hK [] _ ⟨none,0,0⟩ hS (fun _=>rfl) hB.size hB.block (.inl ⟨rfl,by simp⟩)
    · refine hK ss _ ⟨some ⟨g, 0, none⟩, ss.length, cap⟩ hS (fun e => by have := hnil.2 e; cases this) hB.size hB.block (.inr ⟨g, cap, _, cur, by rw [hlen], hg, hgc, by rw [hlen]; exact h1, by simpa using h3, ?_⟩)
      rw [hlen]
      have h5:cur.toList.take (ss.length*1)=(ss.mergeSort fun x y=>decide (x≤y)).map encZ:=h4
      rw [Nat.mul_one] at h5
      exact h5
  match m,hbc,HH with
  | none, hbc, HH =>
    refine fin (fun ss=>ss=[]) 0 (by omega) ?_ ?_
    · have := AnyZI.keys_gives_nil L10 Fence.wide 2 trivial rfl b w hbl hbc
      rw [e10] at this; exact this
    · rintro ss h' s rfl h0 h1 h2 h3
      rw [h0 rfl]
      exact HH h' h1 h2
  | some r, hbc, HH =>
    obtain ⟨es,ck,L,hr,hst,hsz,hkeys,hwf,HH⟩:=HH
    have hlen:es.size=L.length:=by
      have:=congrArg List.length hkeys
      simpa using this
    let R0:Value→Option (DataW Unit × List MemPlace):=fun _=>some (.nil,[])
    have hrd: ∀ x ∈ es.toList,∃ n,x.key= .int .i64 n∧rd P (R'.t 26) R0 x=some (.int .i64 n, .nil):=by
      intro x hx
      have:x.key ∈ L.map (Value.int .i64):=by rw [← hkeys]; exact List.mem_map_of_mem hx
      obtain ⟨n,hn,e⟩:=List.mem_map.1 this
      refine ⟨n,e.symm, ?_⟩
      unfold rd
      rw [← e,Maps.keyOf_int_mk L10.t26 (by have:=hwf n hn; simp only [Lit.wf,Bool.and_eq_true,decide_eq_true_eq]; exact this)]
      rfl
    have hown:w.ownsMap P (R'.t 26) R0 r es.size (.map ((es.toList.map (rg P (R'.t 26) R0)).foldr DataW.insert [])):=
      ⟨es,ck,hr,⟨by unfold maxLen; omega,hst,fun x hx=>by obtain ⟨n,_,e⟩:=hrd x hx; exact ⟨_,e⟩⟩,Nat.le_refl _,rfl⟩
    have hseq:=AnyZI.keys_gives L10 Fence.wide 2 trivial rfl (by omega) b r es.size _ w hbl hbc hown
    rw [e10] at hseq
    have hp:(intKeys (H:=Unit) (.map ((es.toList.map (rg P (R'.t 26) R0)).foldr DataW.insert []))).Perm L:=by
      refine ((sorted_perm _).map _).trans ?_
      rw [List.map_map]
      have:es.toList.map ((fun p:Lit × DataW Unit=>intOf p.1) ∘ rg P (R'.t 26) R0)=(es.toList.map (·.key)).map (fun v=>match v with | .int _ n=>n | _=>0):=by
        rw [List.map_map]
        refine List.map_congr_left fun x hx=> ?_
        obtain ⟨n,e1,e2⟩:=hrd x hx
        simp only [Function.comp,rg,e2,e1]
        rfl
      rw [this,hkeys,List.map_map]
      have e:(List.map ((fun v:Value=>match v with | .int _ n=>n | _=>0) ∘ Value.int .i64) L)=L:=by
        conv=>rhs; rw [← List.map_id L]
        exact List.map_congr_left fun x _=>rfl
      rw [e]
    refine fin _ _ (by rw [Maps.size_eq,length_read]; omega) hseq ?_
    intro ss h' s hS h0 h1 h2 h3
    rw [Ap (hS.trans hp)] at h3
    exact HH h' s h1 h2 h3
end Go.Wc
