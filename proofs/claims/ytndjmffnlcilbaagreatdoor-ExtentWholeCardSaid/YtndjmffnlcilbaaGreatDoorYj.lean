/- Contracts over this program. Their conditions: the slices read as the lists that are named, and lie within the sizes that are named. -/
import Derived.Test.YtndjmffnlcilbaaGreatDoorYi
set_option linter.unusedSimpArgs false
set_option linter.unusedVariables false
set_option linter.deprecated false
set_option linter.unnecessarySimpa false
namespace Go.Proofs.YtndjmffnlcilbaaGreatDoor
open Go Go.RowKit Go.Ix Go.Ext Go.Maps
def FileOk (p:Txt×Fi):Prop:=p.1.length≤1000000∧p.2.size≤1000000∧(0≤p.2.sum∧p.2.sum<4294967296)∧(∀a∈p.2.secs,a≤1000000)∧p.2.secs.length≤100000
def lenOf (l:Fs) (s:Txt):Nat:=match Ext.look l s with
 | some f=>fileLen (s,f)
 | none=>0
theorem lenOf_sum {l:Fs}{ks:List Txt}(hn:(keys l).Nodup) (hp:ks.Perm (keys l)):2+(ks.map (lenOf l)).sum=dirLen l:=by
 unfold dirLen
 rw [(hp.map (lenOf l)).sum_nat]
 unfold keys
 rw [List.map_map]
 congr 2
 apply List.map_congr_left
 intro p hp
 show lenOf l p.1=fileLen p
 unfold lenOf
 rw [mem_look hn (show (p.1,p.2)∈l from hp)]
theorem sum_take_le (f:Txt→Nat):∀(ks:List Txt) (k:Nat),((ks.take k).map f).sum≤(ks.map f).sum
 | [],k=>by simp
 | s :: ks,0=>by simp
 | s :: ks,k+1=>by
  have:=sum_take_le f ks k
  simp only [List.take_succ_cons,List.map_cons,List.sum_cons]
  omega
theorem look_key {l:Fs}{ks:List Txt}{s:Txt}(hp:ks.Perm (keys l)) (hs:s∈ks):∃f,Ext.look l s=some f∧(s,f)∈l:=by
 have hm:s∈keys l:=hp.mem_iff.1 hs
 cases hl:Ext.look l s with
 | none=>exact absurd hm (look_none.1 hl)
 | some f=>exact⟨f,rfl,look_mem hl⟩
def upto (l:Fs) (ks:List Txt) (k:Nat):Nat:=2+((ks.take k).map (lenOf l)).sum
theorem upto_le {l:Fs}{ks:List Txt}(hn:(keys l).Nodup) (hp:ks.Perm (keys l)) (k:Nat):upto l ks k≤dirLen l:=by
 have h1:=lenOf_sum hn hp
 have h2:=sum_take_le (lenOf l) ks k
 unfold upto
 omega
theorem upto_all {l:Fs}{ks:List Txt}(hn:(keys l).Nodup) (hp:ks.Perm (keys l)):upto l ks ks.length=dirLen l:=by
 unfold upto
 rw [List.take_length]
 exact lenOf_sum hn hp
theorem upto_succ {l:Fs}{ks:List Txt}{k:Nat}{s:Txt}{f:Fi}(hs:ks[k]?=some s) (hf:Ext.look l s=some f):upto l ks (k+1)=upto l ks k+(12+s.length+4 * (runsOf f.secs).length):=by
 unfold upto
 rw [List.take_add_one,hs]
 simp only [Option.toList_some,List.map_append,List.map_cons,List.map_nil,List.sum_append,List.sum_cons,List.sum_nil,Nat.add_zero]
 have:lenOf l s=12+s.length+4 * (runsOf f.secs).length:=by simp [lenOf,hf,fileLen]
 omega
theorem len_le_dir:∀l:Fs,l.length≤dirLen l
 | []=>Nat.zero_le _
 | p :: l=>by
  have h:=len_le_dir l
  unfold dirLen at h ⊢
  simp only [List.map_cons,List.sum_cons,List.length_cons,fileLen]
  omega
theorem rise_perm {zs:List Txt}(h:zs.Nodup):(rise zs).Perm zs:=(List.perm_ext_iff_of_nodup (rising_nodup (rise_rising _)) h).2 fun _=>mem_rise
theorem entry_step {l:Fs}{ks:List Txt}{k:Nat}{s:Txt}{f:Fi}(hs:ks[k]?=some s) (hf:Ext.look l s=some f) (z:List Nat):z++(ks.take (k+1)).flatMap (entryB l)=(z++(ks.take k).flatMap (entryB l))++fileB s f:=by
 rw [List.take_add_one,hs,List.flatMap_append]
 simp [entryB,hf]
theorem file_bytes {zz b5:List Nat}{s:Txt}{f:Fi}{su kd:Nat}(h5:b5=zz++[s.length % 256]++nums s) (hs:f.sum=(su:Nat)) (hk:kd=kindB f):b5++[kd]++low 4 f.size++low 4 su++runsB f.secs=zz++fileB s f:=by
 have e:f.sum.toNat=su:=by rw [hs];rfl
 unfold fileB
 rw [h5,hk,e]
 have:nums s=octets s:=rfl
 rw [this]
 simp
set_option maxRecDepth 20000 in
set_option maxHeartbeats 8000000 in
theorem sbytes_any {w:World}{B tb mb nm:Nat}{l:Fs}(h:SMap w B tb mb nm l) (hnm:nm≤100000) (hl:∀p∈l,FileOk p) (hdl:dirLen l≤1000000) :
  Calls Tryz.prog 24 #[.map (some mb)] w fun e w'=>∃v,e=.returned v∧RowB w' w.heap.size v (dirB l) (dirLen l)∧Below w.heap.size w w':=by
 obtain⟨i5,hi5,hz5,hy5,hx5⟩:=info_parts Tryz.info5
 have H:=Lib.hid h
 have Hl:=Lib.hid hl
 have hnd:=h.nodup
 obtain⟨D,hown,_,hD⟩:=h
 have Hsz:=Lib.hid (smap_size hown hnd hD)
 clear hD
 have hsz:Maps.size D≤nm:=hown.size_le
 have hws:=wrap_u64 (Maps.size D) (by omega)
 have HL0:=Lib.hid (low_any (w:=w) (B:=w.heap.size) (Maps.size D) 2 (RowB.nil w w.heap.size) (Nat.le_refl _) (by omega) (by decide) (by omega))
 clear hl
 go_enter Tryz.func24,Tryz.ntmps24
 go_upto_region 2 with (first
  | (at_len;refine wpList_len_own _ rfl _ 65 rfl 9 91 Tryz.underlying65 RV mb nm D rfl hown ?_)
  | (go_at_call 54;refine HL0.out.mono ?_;clear HL0;rintro e w1 ⟨v1,rfl,hr1,hf1⟩;obtain⟨o1,c1,rfl⟩:=hr1.shape;have Hr1:=Lib.hid hr1;have Hf1:=Lib.hid hf1;have hs1:=hf1.size;have HK:=Lib.hid (mkeys_any (some mb) w1);have HS:=Lib.hid (sorted_any ((H.out.fr hf1 (by decide) (by simp) (by simp))) (by omega));clear hr1 hf1))
 go_wp2_with (first
  | (go_at_call 52;refine HK.out.mono ?_;clear HK;rintro e w2 ⟨rfl,rfl⟩)
  | (go_at_call 51;refine HS.out.mono ?_;clear HS;rintro e w3 ⟨kv,ks,rfl,hk3,hp3,hb3⟩;obtain⟨ko,kc,rfl,hko⟩:=ownsRow_shape hk3;have Hk3:=Lib.hid hk3;have Hke:=Lib.hid hp3;have Hp3:Hid (ks.Perm (keys l)):=Lib.hid (hp3 ▸ rise_perm hnd);have Hb3:=Lib.hid hb3;clear hk3 hp3 hb3))
 have HF3:Hid (Fr w.heap.size [5] [] w w3):=Lib.hid ((Hf1.out.alloc hs1 _).trans (Fr.of_below (Hb3.out.mono (by simp)) (by simp;omega) _ _))
 have Hr3:Hid (RowB w3 w.heap.size (.slice o1 2 c1) (low 2 l.length) 2):=Lib.hid (by
  have h9:=((Hr1.out.olds (Olds.alloc _ (.cells #[.map (some mb)] 65))).olds ⟨Hb3.out.size,fun b hb=>Hb3.out.block b (by simpa using hb)⟩)
  rw [Hsz.out] at h9
  exact h9)
 have hs3:=HF3.out.size
 have HSum:=Lib.hid (upto_all hnd Hp3.out)
 have Hle:=Lib.hid (fun k=>upto_le hnd Hp3.out k)
 have hm6:ks.length≤1000000:=by
  have h1:=Hp3.out.length_eq
  have h2:=len_le_dir l
  unfold keys at h1
  rw [List.length_map] at h1
  omega
 generalize hm:ks.length=m at *
 have Hm:=Lib.hid hm
 clear hm
 go_loopw [3,5,6,7,16] (fun sv _ _ _ iv wr=>∃k:Nat,k≤m∧iv=.int .i64 k∧RowB wr w.heap.size sv (low 2 l.length++(ks.take k).flatMap (entryB l)) (upto l ks k)∧Fr w.heap.size [5] [] w3 wr) (fun _ _ _ _ iv _=>m-(intOf iv).toNat)
 case atStart=>exact⟨0,Nat.zero_le _,rfl,by rw [List.take_zero,List.flatMap_nil,List.append_nil];exact Hr3.out,Fr.refl _ _ _ _⟩
 case round =>
  obtain⟨k,hk,rfl,hrow,hfr⟩:=hrel
  obtain⟨zz,hzz⟩:∃zz,zz=low 2 l.length++(ks.take k).flatMap (entryB l):=⟨_,rfl⟩
  rw [← hzz] at hrow
  have Hzz:=Lib.hid hzz
  clear hzz
  have Hrow:=Lib.hid hrow
  have Hfr:=Lib.hid hfr
  have hsr:=hfr.size
  obtain⟨so,sc,rfl⟩:=hrow.shape
  have hqb:upto l ks k≤1000000:=Nat.le_trans (Hle.out k) hdl
  clear hrow hfr
  by_cases hlt:k<m
  ·obtain⟨s,hs⟩:∃s,ks[k]?=some s:=⟨_,List.getElem?_eq_getElem (by rw [Hm.out];exact hlt)⟩
   obtain⟨f,hf,hfl⟩:=look_key Hp3.out (List.mem_of_getElem? hs)
   obtain⟨k1,k2,⟨k3,k4⟩,k5,k6⟩:=Hl.out _ hfl
   simp only at k1 k2 k3 k4 k5 k6
   obtain⟨su,hsu⟩:∃su:Nat,f.sum=(su:Int):=⟨f.sum.toNat,by omega⟩
   have HN:Hid (upto l ks (k+1)=upto l ks k+(12+s.length+4 * (runsOf f.secs).length)):=Lib.hid (upto_succ hs hf)
   have Hst:=Lib.hid (entry_step hs hf (low 2 l.length))
   have Hsu:=Lib.hid hsu
   have hsl:=Hle.out (k+1)
   rw [HN.out] at hsl
   obtain⟨kb,rfl⟩:∃kb,ko=some ⟨kb,0,none⟩:=by
    rcases Hk3.out.2 with ⟨_,h0⟩|⟨g,cap,cur,e,_⟩
    ·omega
    ·simp only [Value.slice.injEq] at e
     exact⟨g,e.1⟩
   have hck:wr.cell? ⟨kb,k,none⟩=some (encStr s):=by
    have h1:=ownsRow_cell (Hfr.out.keepRow Hk3.out (by decide) (by simp)) k (encStr s) (by simp [hs])
    simpa using h1
   have hmap:=H.out.fr (HF3.out.trans Hfr.out) (by decide) (by simp) (by simp)
   obtain⟨v,hlk,_,_,hval⟩:=hmap.look s (by omega)
   obtain⟨r,rfl,hrr,_⟩:=hval f hf
   obtain⟨ro,rc,rfl,_⟩:=ownsRow_shape hrr
   have Hrr:=Lib.hid hrr
   unfold fval at hlk
   rw [hsu] at hlk
   generalize hqq:upto l ks k=q at *
   clear hqq hs hf hfl hmap hval hrr
   obtain⟨lg,hlg⟩:∃lg,lg=f.log:=⟨_,rfl⟩
   rw [← hlg] at hlk
   have Hlg:=Lib.hid hlg
   clear hlg
   cases lg with
   | true =>
    obtain⟨A,hA⟩:∃A:World,A=wr.alloc (.cells #[.bool true,.int .i64 (f.size:Nat),.int .u32 (su:Nat),.slice ro f.secs.length rc] 91):=⟨_,rfl⟩
    have hAb:A.heap[wr.heap.size]?=some (.cells #[.bool true,.int .i64 (f.size:Nat),.int .u32 (su:Nat),.slice ro f.secs.length rc] 91 (0,0)):=by rw [hA];exact heap_alloc_new _ _
    have HoA:Hid (Olds wr A):=Lib.hid (by rw [hA];exact Olds.alloc _ _)
    have hAs:A.heap.size=wr.heap.size+1:=by rw [hA];simp
    have hAn:∀o:Obj,(A.alloc o).heap[wr.heap.size+1]?=some o:=fun o=>by rw [← hAs];exact heap_alloc_new A o
    have HfA:Hid (Fr w.heap.size [5] [] w3 A):=Lib.hid (by rw [hA];exact Hfr.out.alloc (by omega) _)
    have HrowA:=Lib.hid (Hrow.out.olds HoA.out)
    have HAb:=Lib.hid hAb
    have HAe:=Lib.hid hA
    obtain⟨hb8,h88,hbl⟩:=HrowA.out
    unfold Row8 at hb8
    rw [hbl] at hb8
    have Hb8:=Lib.hid hb8
    have H88:=Lib.hid h88
    have Hbl:=Lib.hid hbl
    clear hA hAb hb8 h88 hbl
    go_upto_region 6 with fail
    rw [← HAe.out]
    go_upto_region 8 with (first
     | (at_builtin;refine wpList_append_lies _ rfl _ _ _ rfl w.heap.size 5 i5 _ 1 1 Tryz.underlying34 hi5 hz5 hy5 hx5 rfl Nat.one_pos (.slice so q sc) q (octs zz) rfl (ownsRow_olds Hb8.out (Olds.alloc _ _)) ⟨wr.heap.size+1,0,none⟩ 1 1 [.int .u8 ((s.length:Int) % 256)] rfl rfl (World.news_of_block (cs:=#[.int .u8 ((s.length:Int) % 256)]) (t:=5) (fr:=(0,0)) (hAn _)) (by simp [Value.oneCell']) Nat.one_pos (by unfold maxLen;omega) (by omega) (by simp;omega) (wr.heap.size+1+1) (by simp;omega) ?_;intro gg cap2 w4 hown4 hgrow4 hat4 hlt4;have Hown4:=Lib.hid hown4;have Hf4:=Lib.hid (((Fr.refl w.heap.size [5] [] A).alloc (by omega) (.cells #[.int .u8 ((s.length:Int) % 256)] 5)).row (by simp;omega) (ownsRow_olds Hb8.out (Olds.alloc _ _)) (by simp) hgrow4);have hs4:=Hf4.out.size;clear hown4 hgrow4 hat4)
     | (refine wpList_append_txt rfl _ _ rfl w.heap.size (q+1) (.slice (some ⟨gg,0,none⟩) (q+1) cap2) s (octs zz++[.int .u8 ((s.length:Int) % 256)]) rfl rfl Hown4.out (by omega) (by omega) ?_;intro v5 w5 hown5 hgrow5 hat5;obtain⟨o5,c5,rfl,_⟩:=ownsRow_shape hown5;have Hown5:=Lib.hid hown5;have Hf5:=Lib.hid (Hf4.out.row (by omega) Hown4.out (by simp) hgrow5);have hs5:=Hf5.out.size;clear hown5 hgrow5 hat5))
    have Hb5:Hid (RowB w5 w.heap.size (.slice o5 (q+1+s.length) c5) (zz++[s.length % 256]++nums s) (q+1+s.length)):=Lib.hid ⟨(by
     unfold Row8
     rw [octs_append,octs_append,List.length_append,List.length_append,Hbl.out,nums_len]
     exact Hown5.out),(fun y hy=>by
     rw [List.mem_append,List.mem_append] at hy
     rcases hy with (hy | hy) | hy
     ·exact H88.out y hy
     ·have:y=s.length % 256:=by simpa using hy
      omega
     ·exact nums_byte hy),(by rw [List.length_append,List.length_append,Hbl.out,nums_len];rfl)⟩
    have hb5c:=Hf5.out.keep HAb.out (by simp) (by decide)
    have h50:w5.cell? ⟨wr.heap.size,0,none⟩=some (.bool true):=by rw [cell_of_heap hb5c];rfl
    obtain⟨b5,hb5⟩:∃b5,b5=zz++[s.length % 256]++nums s:=⟨_,rfl⟩
    rw [← hb5] at Hb5
    have H5e:=Lib.hid hb5
    clear hb5
    obtain⟨hb5r,h58,hb5l⟩:=Hb5.out
    unfold Row8 at hb5r
    rw [hb5l] at hb5r
    have Hb5r:=Lib.hid hb5r
    have H58:=Lib.hid h58
    have Hb5l:=Lib.hid hb5l
    have Hb5c:=Lib.hid hb5c
    clear hb5r h58 hb5l hb5c
    go_upto_region 11 with (at_builtin;refine wpList_append_lies _ rfl _ _ _ rfl w.heap.size 5 i5 _ 1 1 Tryz.underlying34 hi5 hz5 hy5 hx5 rfl Nat.one_pos (.slice o5 (q+1+s.length) c5) (q+1+s.length) (octs b5) rfl (ownsRow_olds Hb5r.out (Olds.alloc _ _)) ⟨w5.heap.size,0,none⟩ 1 1 [.int .u8 1] rfl rfl (World.news_of_block (cs:=#[.int .u8 1]) (t:=5) (fr:=(0,0)) (heap_alloc_new w5 _)) (by simp [Value.oneCell']) Nat.one_pos (by unfold maxLen;omega) (by omega) (by simp;omega) (w5.heap.size+1) (by simp) ?_;intro g6 cap6 w6 hown6 hgrow6 hat6 hlt6;have Hown6:=Lib.hid hown6;have Hf6:=Lib.hid ((Hf5.out.alloc (by omega) (.cells #[.int .u8 1] 5)).row (by simp;omega) (ownsRow_olds Hb5r.out (Olds.alloc _ _)) (by simp) hgrow6);have hs6:=Hf6.out.size;clear hown6 hgrow6 hat6)
    have Hb6:Hid (RowB w6 w.heap.size (.slice (some ⟨g6,0,none⟩) (q+1+s.length+1) cap6) (b5++[1]) (q+1+s.length+1)):=Lib.hid ⟨(by
     unfold Row8
     rw [octs_append,List.length_append,Hb5l.out]
     exact Hown6.out),(fun y hy=>by
     rw [List.mem_append] at hy
     rcases hy with hy | hy
     ·exact H58.out y hy
     ·have:y=1:=by simpa using hy
      omega),(by rw [List.length_append,Hb5l.out];rfl)⟩
    have hb6c:w6.drew.heap[wr.heap.size]?=_:=Hf6.out.keep HAb.out (by simp) (by decide)
    have h61:w6.drew.cell? ⟨wr.heap.size,1,none⟩=some (.int .i64 (f.size:Nat)):=by rw [cell_of_heap hb6c];rfl
    have h62:w6.drew.cell? ⟨wr.heap.size,2,none⟩=some (.int .u32 (su:Nat)):=by rw [cell_of_heap hb6c];rfl
    have hwz:=wrap_u64 f.size (by omega)
    have hwu:=wrap_u64 su (by omega)
    have hs6d:w6.drew.heap.size=w6.heap.size:=rfl
    have HL1:=Lib.hid (low_any (w:=w6.drew) (B:=w.heap.size) f.size 4 (Hb6.out.olds (Olds.drewN w6 1)) (by rw [hs6d];omega) (by omega) (by decide) (by omega))
    have Hb6c:=Lib.hid hb6c
    clear hb6c
    go_region_with (first
     | (go_at_call 54;refine HL1.out.mono ?_;clear HL1;rintro e w7 ⟨v7,rfl,hr7,hf7⟩;have hb7:=hf7.keep Hb6c.out (by simp) (by decide);have h72:w7.cell? ⟨wr.heap.size,2,none⟩=some (.int .u32 (su:Nat)):=(by rw [cell_of_heap hb7];rfl);have hs7:=hf7.size;have HL2:=Lib.hid (low_any (w:=w7) (B:=w.heap.size) su 4 hr7 (by omega) (by omega) (by decide) (by omega));have Hf7:=Lib.hid hf7;have Hb7:=Lib.hid hb7;clear hr7 hf7 hb7)
     | (go_at_call 54;refine HL2.out.mono ?_;clear HL2;rintro e w8 ⟨v8,rfl,hr8,hf8⟩;obtain⟨o8,c8,rfl⟩:=hr8.shape;have Hf8:=Lib.hid ((Hf6.out.drew.trans Hf7.out).trans hf8);have h83:w8.cell? ⟨wr.heap.size,3,none⟩=some (.slice ro f.secs.length rc):=(by rw [cell_of_heap (hf8.keep Hb7.out (by simp) (by decide))];rfl);have hs8:=hf8.size;have HP:=Lib.hid (putRuns_any (w:=w8) (B:=w.heap.size) ro rc f.secs.length f.secs rfl k6 k5 (owns_flat (Hf8.out.keepRow (ownsRow_olds Hrr.out HoA.out) (by decide) (by simp))) hr8 (by omega) (by omega));clear hr8 hf8))
    all_goals go_wp2_with (go_at_call 55;refine HP.out.mono ?_;clear HP;rintro e w9 ⟨v9,rfl,hr9,hf9⟩;have Hr9:=Lib.hid hr9;have Hf9:=Lib.hid ((HfA.out.trans Hf8.out).trans hf9);clear hr9 hf9)
    all_goals go_roundw
    all_goals first
     | exact⟨k+1,by omega,by go_num,by rw [HN.out];have h9:=Hr9.out;rw [file_bytes H5e.out Hsu.out (by unfold kindB;rw [← Hlg.out];rfl)] at h9;rw [Hst.out,← Hzz.out];rwa [show q+1+s.length+1+4+4+2+4 * (runsOf f.secs).length=q+(12+s.length+4 * (runsOf f.secs).length) by omega] at h9,Hf9.out⟩
     | (simp [intOf];omega)
     | (rename_i hz hz2;simp [intOf];omega)
   | false =>
    obtain⟨A,hA⟩:∃A:World,A=wr.alloc (.cells #[.bool false,.int .i64 (f.size:Nat),.int .u32 (su:Nat),.slice ro f.secs.length rc] 91):=⟨_,rfl⟩
    have hAb:A.heap[wr.heap.size]?=some (.cells #[.bool false,.int .i64 (f.size:Nat),.int .u32 (su:Nat),.slice ro f.secs.length rc] 91 (0,0)):=by rw [hA];exact heap_alloc_new _ _
    have HoA:Hid (Olds wr A):=Lib.hid (by rw [hA];exact Olds.alloc _ _)
    have hAs:A.heap.size=wr.heap.size+1:=by rw [hA];simp
    have hAn:∀o:Obj,(A.alloc o).heap[wr.heap.size+1]?=some o:=fun o=>by rw [← hAs];exact heap_alloc_new A o
    have HfA:Hid (Fr w.heap.size [5] [] w3 A):=Lib.hid (by rw [hA];exact Hfr.out.alloc (by omega) _)
    have HrowA:=Lib.hid (Hrow.out.olds HoA.out)
    have HAb:=Lib.hid hAb
    have HAe:=Lib.hid hA
    obtain⟨hb8,h88,hbl⟩:=HrowA.out
    unfold Row8 at hb8
    rw [hbl] at hb8
    have Hb8:=Lib.hid hb8
    have H88:=Lib.hid h88
    have Hbl:=Lib.hid hbl
    clear hA hAb hb8 h88 hbl
    go_upto_region 6 with fail
    rw [← HAe.out]
    go_upto_region 8 with (first
     | (at_builtin;refine wpList_append_lies _ rfl _ _ _ rfl w.heap.size 5 i5 _ 1 1 Tryz.underlying34 hi5 hz5 hy5 hx5 rfl Nat.one_pos (.slice so q sc) q (octs zz) rfl (ownsRow_olds Hb8.out (Olds.alloc _ _)) ⟨wr.heap.size+1,0,none⟩ 1 1 [.int .u8 ((s.length:Int) % 256)] rfl rfl (World.news_of_block (cs:=#[.int .u8 ((s.length:Int) % 256)]) (t:=5) (fr:=(0,0)) (hAn _)) (by simp [Value.oneCell']) Nat.one_pos (by unfold maxLen;omega) (by omega) (by simp;omega) (wr.heap.size+1+1) (by simp;omega) ?_;intro gg cap2 w4 hown4 hgrow4 hat4 hlt4;have Hown4:=Lib.hid hown4;have Hf4:=Lib.hid (((Fr.refl w.heap.size [5] [] A).alloc (by omega) (.cells #[.int .u8 ((s.length:Int) % 256)] 5)).row (by simp;omega) (ownsRow_olds Hb8.out (Olds.alloc _ _)) (by simp) hgrow4);have hs4:=Hf4.out.size;clear hown4 hgrow4 hat4)
     | (refine wpList_append_txt rfl _ _ rfl w.heap.size (q+1) (.slice (some ⟨gg,0,none⟩) (q+1) cap2) s (octs zz++[.int .u8 ((s.length:Int) % 256)]) rfl rfl Hown4.out (by omega) (by omega) ?_;intro v5 w5 hown5 hgrow5 hat5;obtain⟨o5,c5,rfl,_⟩:=ownsRow_shape hown5;have Hown5:=Lib.hid hown5;have Hf5:=Lib.hid (Hf4.out.row (by omega) Hown4.out (by simp) hgrow5);have hs5:=Hf5.out.size;clear hown5 hgrow5 hat5))
    have Hb5:Hid (RowB w5 w.heap.size (.slice o5 (q+1+s.length) c5) (zz++[s.length % 256]++nums s) (q+1+s.length)):=Lib.hid ⟨(by
     unfold Row8
     rw [octs_append,octs_append,List.length_append,List.length_append,Hbl.out,nums_len]
     exact Hown5.out),(fun y hy=>by
     rw [List.mem_append,List.mem_append] at hy
     rcases hy with (hy | hy) | hy
     ·exact H88.out y hy
     ·have:y=s.length % 256:=by simpa using hy
      omega
     ·exact nums_byte hy),(by rw [List.length_append,List.length_append,Hbl.out,nums_len];rfl)⟩
    have hb5c:=Hf5.out.keep HAb.out (by simp) (by decide)
    have h50:w5.cell? ⟨wr.heap.size,0,none⟩=some (.bool false):=by rw [cell_of_heap hb5c];rfl
    obtain⟨b5,hb5⟩:∃b5,b5=zz++[s.length % 256]++nums s:=⟨_,rfl⟩
    rw [← hb5] at Hb5
    have H5e:=Lib.hid hb5
    clear hb5
    obtain⟨hb5r,h58,hb5l⟩:=Hb5.out
    unfold Row8 at hb5r
    rw [hb5l] at hb5r
    have Hb5r:=Lib.hid hb5r
    have H58:=Lib.hid h58
    have Hb5l:=Lib.hid hb5l
    have Hb5c:=Lib.hid hb5c
    clear hb5r h58 hb5l hb5c
    go_upto_region 11 with (at_builtin;refine wpList_append_lies _ rfl _ _ _ rfl w.heap.size 5 i5 _ 1 1 Tryz.underlying34 hi5 hz5 hy5 hx5 rfl Nat.one_pos (.slice o5 (q+1+s.length) c5) (q+1+s.length) (octs b5) rfl (ownsRow_olds Hb5r.out (Olds.alloc _ _)) ⟨w5.heap.size,0,none⟩ 1 1 [.int .u8 0] rfl rfl (World.news_of_block (cs:=#[.int .u8 0]) (t:=5) (fr:=(0,0)) (heap_alloc_new w5 _)) (by simp [Value.oneCell']) Nat.one_pos (by unfold maxLen;omega) (by omega) (by simp;omega) (w5.heap.size+1) (by simp) ?_;intro g6 cap6 w6 hown6 hgrow6 hat6 hlt6;have Hown6:=Lib.hid hown6;have Hf6:=Lib.hid ((Hf5.out.alloc (by omega) (.cells #[.int .u8 0] 5)).row (by simp;omega) (ownsRow_olds Hb5r.out (Olds.alloc _ _)) (by simp) hgrow6);have hs6:=Hf6.out.size;clear hown6 hgrow6 hat6)
    have Hb6:Hid (RowB w6 w.heap.size (.slice (some ⟨g6,0,none⟩) (q+1+s.length+1) cap6) (b5++[0]) (q+1+s.length+1)):=Lib.hid ⟨(by
     unfold Row8
     rw [octs_append,List.length_append,Hb5l.out]
     exact Hown6.out),(fun y hy=>by
     rw [List.mem_append] at hy
     rcases hy with hy | hy
     ·exact H58.out y hy
     ·have:y=0:=by simpa using hy
      omega),(by rw [List.length_append,Hb5l.out];rfl)⟩
    have hb6c:w6.drew.heap[wr.heap.size]?=_:=Hf6.out.keep HAb.out (by simp) (by decide)
    have h61:w6.drew.cell? ⟨wr.heap.size,1,none⟩=some (.int .i64 (f.size:Nat)):=by rw [cell_of_heap hb6c];rfl
    have h62:w6.drew.cell? ⟨wr.heap.size,2,none⟩=some (.int .u32 (su:Nat)):=by rw [cell_of_heap hb6c];rfl
    have hwz:=wrap_u64 f.size (by omega)
    have hwu:=wrap_u64 su (by omega)
    have hs6d:w6.drew.heap.size=w6.heap.size:=rfl
    have HL1:=Lib.hid (low_any (w:=w6.drew) (B:=w.heap.size) f.size 4 (Hb6.out.olds (Olds.drewN w6 1)) (by rw [hs6d];omega) (by omega) (by decide) (by omega))
    have Hb6c:=Lib.hid hb6c
    clear hb6c
    go_region_with (first
     | (go_at_call 54;refine HL1.out.mono ?_;clear HL1;rintro e w7 ⟨v7,rfl,hr7,hf7⟩;have hb7:=hf7.keep Hb6c.out (by simp) (by decide);have h72:w7.cell? ⟨wr.heap.size,2,none⟩=some (.int .u32 (su:Nat)):=(by rw [cell_of_heap hb7];rfl);have hs7:=hf7.size;have HL2:=Lib.hid (low_any (w:=w7) (B:=w.heap.size) su 4 hr7 (by omega) (by omega) (by decide) (by omega));have Hf7:=Lib.hid hf7;have Hb7:=Lib.hid hb7;clear hr7 hf7 hb7)
     | (go_at_call 54;refine HL2.out.mono ?_;clear HL2;rintro e w8 ⟨v8,rfl,hr8,hf8⟩;obtain⟨o8,c8,rfl⟩:=hr8.shape;have Hf8:=Lib.hid ((Hf6.out.drew.trans Hf7.out).trans hf8);have h83:w8.cell? ⟨wr.heap.size,3,none⟩=some (.slice ro f.secs.length rc):=(by rw [cell_of_heap (hf8.keep Hb7.out (by simp) (by decide))];rfl);have hs8:=hf8.size;have HP:=Lib.hid (putRuns_any (w:=w8) (B:=w.heap.size) ro rc f.secs.length f.secs rfl k6 k5 (owns_flat (Hf8.out.keepRow (ownsRow_olds Hrr.out HoA.out) (by decide) (by simp))) hr8 (by omega) (by omega));clear hr8 hf8))
    all_goals go_wp2_with (go_at_call 55;refine HP.out.mono ?_;clear HP;rintro e w9 ⟨v9,rfl,hr9,hf9⟩;have Hr9:=Lib.hid hr9;have Hf9:=Lib.hid ((HfA.out.trans Hf8.out).trans hf9);clear hr9 hf9)
    all_goals go_roundw
    all_goals first
     | exact⟨k+1,by omega,by go_num,by rw [HN.out];have h9:=Hr9.out;rw [file_bytes H5e.out Hsu.out (by unfold kindB;rw [← Hlg.out];rfl)] at h9;rw [Hst.out,← Hzz.out];rwa [show q+1+s.length+1+4+4+2+4 * (runsOf f.secs).length=q+(12+s.length+4 * (runsOf f.secs).length) by omega] at h9,Hf9.out⟩
     | (simp [intOf];omega)
     | (rename_i hz hz2;simp [intOf];omega)
  ·go_wp2_with fail
   go_ret
   obtain rfl:k=m:=by omega
   refine⟨_,rfl,?_,(HF3.out.trans Hfr.out).below⟩
   have h9:=Hrow.out
   rw [Hzz.out,List.take_of_length_le (by rw [Hm.out];exact Nat.le_refl _)] at h9
   rw [← HSum.out]
   have e9:dirB l=low 2 l.length++ks.flatMap (entryB l):=by unfold dirB;rw [← Hke.out]
   rw [e9]
   exact h9
end Go.Proofs.YtndjmffnlcilbaaGreatDoor
