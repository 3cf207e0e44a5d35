import Derived.Test.YtpjehkdneiclnaaCnShT
import Derived.Shelf.Sort.Plain
import Derived.Shelf.Slices.In.SortNone
set_option linter.unusedSimpArgs false
set_option linter.unusedVariables false
namespace Go.Wc
open Go Go.Sort
theorem hfrz_out {h:Hp} {b T o:Nat} {c:Array Value} {z:Nat × Nat} (hb:h[b]? =some (.cells c T z)) (hz:z.2≤o∨o<z.1):hfrz h ⟨b,o,none⟩=false:=by
  unfold hfrz
  simp only [hb]
  obtain ⟨lo,hi⟩:=z
  simp only at hz ⊢
  rcases hz with h | h
  · simp [Nat.not_lt.2 h]
  · simp [Nat.not_le.2 h]
theorem putCells_mid {pre post : List Value} {zs ys : List Int} (hl : ys.length = zs.length) :
    putCells (Value.int .i64) pre.length ys.toArray (pre++zs.map (Value.int .i64)++post).toArray=(pre++ys.map (Value.int .i64)++post).toArray:=by
  unfold putCells
  apply Array.ext
  · simp [hl]
  · intro i h1 h2
    simp only [Array.getElem_mapIdx,List.getElem_toArray,List.size_toArray]
    by_cases e1:i<pre.length
    · rw [if_neg (by omega)]
      simp only [List.append_assoc]
      rw [List.getElem_append_left e1,List.getElem_append_left e1]
    · by_cases e2 : i < pre.length + ys.length
      · rw [if_pos ⟨by omega, e2⟩]
        simp only [List.append_assoc]
        rw [List.getElem_append_right (by omega),List.getElem_append_left (by simp; omega)]
        have e3:i - pre.length<ys.length:=by omega
        simp [e3]
      · rw [if_neg (by omega)]
        simp only [List.append_assoc]
        rw [List.getElem_append_right (by omega),List.getElem_append_right (by simp; omega),List.getElem_append_right (by omega),List.getElem_append_right (by simp; omega)]
        simp [hl]
theorem putRow_heap {w:World} {b T:Nat} {pre post:List Value} {zs ys:List Int} {z:Nat × Nat} (hb:w.heap[b]? =some (.cells (pre++zs.map (Value.int .i64)++post).toArray T z)) (hl:ys.length=zs.length):
    (putRow (Value.int .i64) w b pre.length ys.toArray).heap=w.heap.setIfInBounds b (.cells (pre++ys.map (Value.int .i64)++post).toArray T z):=by
  unfold putRow mapBlock
  apply Array.ext_getElem?
  intro k
  simp only [Array.getElem?_modify]
  by_cases hk:b=k
  · subst hk
    have hlt:=(Array.getElem?_eq_some_iff.1 hb).1
    rw [if_pos rfl,hb,Array.getElem?_setIfInBounds_self_of_lt hlt]
    simp only [Option.map_some,onCells,putCells_mid hl]
  · rw [if_neg hk,Array.getElem?_setIfInBounds_ne hk]
theorem sort_int_ok {P:Program} {R:Go.Shelf.Ren} {ρ:Ids} (Ly:Go.Proofs.Lays.n189 P R) (hc:Callable P (R.f 189)):SpecOk P (R.f 189) (Tx.slices_Sort_int_int_S ρ):=by
  refine ⟨hc,fun args K w H=> ?_⟩
  unfold Tx.slices_Sort_int_int_S at H
  obtain ⟨s,rr,rfl,H2⟩:=tS_elim H
  obtain ⟨rfl,H3⟩:=tN_elim H2
  have HH:Tx.slices_Sort_int_int ρ s w.heap (fun h=>K (.tuple #[]) h):=H3
  clear H H2 H3
  rcases HH with ⟨h0,H⟩ | ⟨blk,off,zs,pre,post,T,z,ha,hz,hlt,hb,ho,hzz,H⟩
  · obtain ⟨a, n, c⟩ := s
    simp only at h0; subst h0
    refine (Go.Proofs.Any.slices_Sort_int_none Ly a c w).mono ?_
    rintro e w' ⟨rfl,rfl⟩
    exact ⟨_,rfl,Same.refl _,H⟩
  · obtain ⟨a, n, c⟩ := s
    simp only at ha hz; subst ha hz ho
    have hH:Holds (Value.int .i64) w blk pre.length zs.toArray:=by
      intro j hj
      have hj:j<zs.length:=by simpa using hj
      refine ⟨?_,hfrz_out hb (by omega)⟩
      show hcell w.heap ⟨blk,pre.length+j,none⟩=_
      unfold hcell
      simp only [hb]
      simp only [List.append_assoc,List.getElem?_toArray,List.getElem?_append_right (Nat.le_add_right _ _),Nat.add_sub_cancel_left]
      rw [List.getElem?_append_left (by simpa using hj)]
      simp [hj]
    refine (Go.Proofs.Any.slices_Sort_int Ly blk pre.length c zs w hH (Array.getElem?_eq_some_iff.1 hb).1 hlt).mono ?_
    rintro e w' ⟨rfl,n,os,rfl⟩
    refine ⟨_,rfl,⟨rfl,rfl,rfl⟩, ?_⟩
    have:=H os
    show K _ ((putRow (Value.int .i64) (Sort.ahead w n) blk pre.length _).heap++os)
    rw [putRow_heap (w:=Sort.ahead w n) (zs:=zs) (z:=z) (T:=T) (post:=post) hb (by simp)]
    exact this
end Go.Wc
