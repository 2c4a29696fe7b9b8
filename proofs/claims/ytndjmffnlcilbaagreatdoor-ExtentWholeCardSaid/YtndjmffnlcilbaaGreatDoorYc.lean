/- What a disk keeps when its power goes, and what a store then has: plain laws, no program. No conditions. -/
import Derived.Test.YtndjmffnlcilbaaGreatDoorYa
set_option linter.unusedSimpArgs false
set_option linter.unusedVariables false
set_option linter.deprecated false
set_option linter.unnecessarySimpa false
namespace Go.Ext
open Go.Ix Line
def sec (L:List Sec) (a:Nat):Sec:=L.getD a []
theorem sec_same {L L':List Sec}{a:Nat}(h:L'[a]?=L[a]?):sec L' a=sec L a:=by
 unfold sec
 rw [List.getD_eq_getElem?_getD,List.getD_eq_getElem?_getD,h]
theorem content_same {L L':List Sec}{secs:List Nat}(h:∀a∈secs,L'[a]?=L[a]?):content L' secs=content L secs:=by
 unfold content
 induction secs with
 | nil=>rfl
 | cons a l ih =>
  rw [List.flatMap_cons,List.flatMap_cons,ih fun b hb=>h b (List.mem_cons_of_mem _ hb),List.getD_eq_getElem?_getD,List.getD_eq_getElem?_getD,h a List.mem_cons_self]
theorem num_some {k:Nat}{b:List Nat}{r:Nat×List Nat}(h:num k b=some r):r=(back (b.take k),b.drop k)∧k≤b.length:=by
 unfold num at h
 split at h
 ·rename_i hk
  exact⟨(Option.some.inj h).symm,hk⟩
 ·cases h
theorem pslot_gen {n:Nat}{b:Sec}{s:Nat×Nat×Nat×List Nat×List Bool}(h:pslot n b=some s):s.1=genOf b:=by
 unfold pslot at h
 split at h
 ·obtain⟨g0,h0,h⟩:=Option.bind_eq_some_iff.1 h
  obtain⟨g1,h1,h⟩:=Option.bind_eq_some_iff.1 h
  obtain⟨z,h2,h⟩:=Option.bind_eq_some_iff.1 h
  obtain⟨u,h3,h⟩:=Option.bind_eq_some_iff.1 h
  obtain⟨r,h4,h⟩:=Option.bind_eq_some_iff.1 h
  split at h
  ·obtain⟨rfl,hl0⟩:=num_some h0
   obtain⟨rfl,hl1⟩:=num_some h1
   rw [← Option.some.inj h]
   simp only [List.length_drop,List.length_take] at hl0 hl1
   unfold genOf
   simp only [List.drop_drop]
   rw [List.drop_take,List.take_take,List.drop_take,List.take_take]
   congr 2
  ·cases h
 ·cases h
section
variable {isN:Txt→Bool}{n:Nat}{L L':List Sec}{b:Sec}{r:Got}
theorem good_parts (h:good isN n L b=some r):∃s,pslot n b=some s∧r.gen=s.1∧r.secs=s.2.2.2.1∧pdir isN ((content L s.2.2.2.1).take s.2.1) s.2.2.2.2=some r.files:=by
 unfold good at h
 obtain⟨s,h0,h⟩:=Option.bind_eq_some_iff.1 h
 split at h
 ·obtain⟨F,h1,h⟩:=Option.bind_eq_some_iff.1 h
  split at h
  ·rw [← Option.some.inj h]
   exact⟨s,h0,rfl,rfl,h1⟩
  ·cases h
 ·cases h
theorem good_gen (h:good isN n L b=some r):r.gen=genOf b:=by
 obtain⟨s,h0,h1,_⟩:=good_parts h
 rw [h1]
 exact pslot_gen h0
theorem good_same (h:good isN n L b=some r) (hs:∀a∈r.secs,L'[a]?=L[a]?):good isN n L' b=some r:=by
 obtain⟨s,h0,_,h2,_⟩:=good_parts h
 have hc:content L' s.2.2.2.1=content L s.2.2.2.1:=content_same (by rw [← h2];exact hs)
 unfold good at h ⊢
 rw [h0] at h ⊢
 simp only [Option.bind_some] at h ⊢
 rw [hc]
 exact h
end
structure Base (isN:Txt→Bool) (n:Nat) (L:List Sec) (cur gen:Nat) (dir:List Nat) (now:Fs):Prop where
 one:cur≤1
 mag:(sec L cur).take 4=magicB
 can:∃F d,good isN n L (sec L cur)=some ⟨gen,dir,F,d⟩∧F.Perm now
 old:(sec L (1-cur)).take 4≠magicB∨genOf (sec L (1-cur))<gen
section
variable {isN:Txt→Bool}{n cur gen:Nat}{L L':List Sec}{dir:List Nat}{now:Fs}
theorem Base.same (h:Base isN n L cur gen dir now) (hs:∀a,a=0∨a=1∨a∈dir→L'[a]?=L[a]?):Base isN n L' cur gen dir now:=by
 have hc:=h.one
 have h1:=sec_same (hs cur (by omega))
 have h2:=sec_same (hs (1-cur) (by omega))
 obtain⟨F,d,h3,h4⟩:=h.can
 exact⟨hc,by rw [h1];exact h.mag,⟨F,d,by rw [h1];exact good_same h3 fun a ha=>hs a (.inr (.inr ha)),h4⟩,by rw [h2];exact h.old⟩
theorem Base.perm {now':Fs}(h:Base isN n L cur gen dir now) (hp:now.Perm now'):Base isN n L cur gen dir now':=by
 obtain⟨F,d,h3,h4⟩:=h.can
 exact⟨h.one,h.mag,⟨F,d,h3,h4.trans hp⟩,h.old⟩
end
theorem sub_len {α:Type} [DecidableEq α]:∀{l k:List α},l.Nodup→(∀x∈l,x∈k)→l.length≤k.length
 | [],k,_,_=>Nat.zero_le _
 | x :: l,k,hn,h=>by
  rw [List.nodup_cons] at hn
  have hx:=h x List.mem_cons_self
  have ih:=sub_len (l:=l) (k:=k.erase x) hn.2 fun y hy=>(List.mem_erase_of_ne (fun e=>hn.1 (by rw [← e];exact hy))).2 (h y (List.mem_cons_of_mem _ hy))
  rw [List.length_erase_of_mem hx] at ih
  have:=List.length_pos_of_mem hx
  rw [List.length_cons]
  omega
theorem sub_back {α:Type} [DecidableEq α] {l k:List α}(hn:l.Nodup) (h:∀x∈l,x∈k) (hl:k.length≤l.length) {s:α}(hs:s∈k):s∈l:=by
 by_cases hm:s∈l
 ·exact hm
 ·have:=sub_len (l:=s :: l) (k:=k) (List.nodup_cons.2 ⟨hm,hn⟩) fun x hx=>by
   rcases List.mem_cons.1 hx with rfl | hx
   ·exact hs
   ·exact h x hx
  rw [List.length_cons] at this
  omega
def FineD (isN:Txt→Bool) (p:Txt×Fi):Prop:=Fine isN p∧p.1≠[]∧p.2.log=false
structure Sound (isN:Txt→Bool) (n:Nat) (dir:List Nat) (now:Fs):Prop where
 lo:3≤n
 hi:n≤62
 kn:(keys now).Nodup
 nod:(dir++now.flatMap (·.2.secs)).Nodup
 two:∀a∈dir,2≤a∧a<n
 fine:∀p∈now,FineD isN p
 rng:∀p∈now,∀a∈p.2.secs,a<n
 S:dir.length=need (dirLen now)
 runs:(runsOf dir).length≤48
 few:now.length≤256
theorem count_flat (l:Fs) (a:Nat):(l.flatMap (·.2.secs)).count a=cntF l a:=by
 induction l with
 | nil=>rfl
 | cons p l ih=>rw [List.flatMap_cons,List.count_append,ih,cntF_cons]
theorem nodup_of_le {dir:List Nat}{l:Fs}(h:∀a,dir.count a+cntF l a≤1):(dir++l.flatMap (·.2.secs)).Nodup:=by
 rw [List.nodup_iff_count]
 intro a
 rw [List.count_append,count_flat]
 exact h a
theorem le_of_nodup {dir:List Nat}{l:Fs}(h:(dir++l.flatMap (·.2.secs)).Nodup) (a:Nat):dir.count a+cntF l a≤1:=by
 have:=List.nodup_iff_count.1 h a
 rw [List.count_append,count_flat] at this
 exact this
theorem flat_perm {l k:Fs}(h:l.Perm k):(l.flatMap (·.2.secs)).Perm (k.flatMap (·.2.secs)):=h.flatMap_right _
theorem dirLen_perm {l k:Fs}(h:l.Perm k):dirLen l=dirLen k:=by unfold dirLen;rw [(h.map _).sum_nat]
theorem Sound.perm {isN:Txt→Bool}{n:Nat}{dir:List Nat}{now now':Fs}(h:Sound isN n dir now) (hp:now.Perm now'):Sound isN n dir now' :=
 ⟨h.lo,h.hi,(hp.map _).nodup_iff.1 h.kn,((flat_perm hp).append_left dir).nodup_iff.1 h.nod,h.two,fun p hm=>h.fine p (hp.mem_iff.2 hm),fun p hm=>h.rng p (hp.mem_iff.2 hm),by rw [← dirLen_perm hp];exact h.S,h.runs,by rw [← hp.length_eq];exact h.few⟩
def opened (n:Nat) (dir:List Nat) (now:Fs):G:={ n:=n,dir:=dir,now:=now,next:=now,T:=fun a=>((dir.count a:Nat):Int)+((cntF now a:Nat):Int),undo:=[] }
theorem Fine.small {isN:Txt→Bool}{p:Txt×Fi}{n:Nat}(h:FineD isN p) (hr:∀a∈p.2.secs,a<n) (hn:n≤62):FOk n p.2:=by
 have h1:=h.1.secs
 have h2:kindB p.2=0:=by unfold kindB;rw [h.2.2];rfl
 rw [h2] at h1
 have h3:p.2.secs.length=need p.2.size:=h1
 have h4:p.2.secs.length≤n:=by
  have h6:=sub_len h.1.nodup (k:=List.range n) fun a ha=>List.mem_range.2 (hr a ha)
  rwa [List.length_range] at h6
 refine⟨fun a ha=>⟨h.1.two a ha,hr a ha⟩,h3,?_⟩
 rw [h3] at h4
 unfold need at h4
 omega
theorem Sound.inv {isN:Txt→Bool}{n:Nat}{dir:List Nat}{now:Fs}(h:Sound isN n dir now):Inv (opened n dir now):=by
 refine⟨h.lo,h.hi,h.kn,h.kn,fun a=>?_,fun a=>?_,fun p hp _=>hp,fun a=>?_,fun p hp=>Fine.small (h.fine p hp) (h.rng p hp) h.hi,fun p hp=>Fine.small (h.fine p hp) (h.rng p hp) h.hi,h.two,h.S⟩
 ·show ((dir.count a:Nat):Int)+(cntF now a:Nat)=((dir.count a+cntF now a:Nat):Int)+(cntF (now.filter fun p=>isNew now p.2) a:Int)
  rw [cntF_zero (l:=now.filter _)]
  ·simp
  ·intro p hp ha
   obtain⟨hp1,hp2⟩:=List.mem_filter.1 hp
   rw [not_new hp1 (fun e=>by rw [e] at ha;cases ha)] at hp2
   cases hp2
 ·show ((dir.count a:Nat):Int)+(cntF now a:Nat)≤1
  have:=le_of_nodup h.nod a
  omega
 ·show ((dir.count a:Nat):Int)+(cntF now a:Nat)+undoSum [] a=((dir.count a+cntF now a:Nat):Int)
  simp [undoSum]
def Has (L:List Sec) (f:Fi) (d:List Nat):Prop:=f.size=d.length∧f.sum=(crc d:Nat)∧(content L f.secs).take f.size=d
abbrev LF:=List (Txt×List Nat)
structure Match (L:List Sec) (fs:Fs) (l:LF):Prop where
 nod:(l.map (·.1)).Nodup
 len:l.length=fs.length
 has:∀p∈l,∃f,look fs p.1=some f∧Has L f p.2
theorem Has.same {L L':List Sec}{f:Fi}{d:List Nat}(h:Has L f d) (hs:∀a∈f.secs,L'[a]?=L[a]?):Has L' f d:=⟨h.1,h.2.1,by rw [content_same hs];exact h.2.2⟩
section
variable {L L':List Sec}{fs fs':Fs}{l:LF}
theorem Match.same (h:Match L fs l) (hs:∀p∈fs,∀a∈p.2.secs,L'[a]?=L[a]?):Match L' fs l :=
 ⟨h.nod,h.len,fun p hp=>by
  obtain⟨f,h1,h2⟩:=h.has p hp
  exact⟨f,h1,h2.same fun a ha=>hs _ (look_mem h1) a ha⟩⟩
theorem Match.perm (h:Match L fs l) (hn:(keys fs).Nodup) (hp:fs.Perm fs'):Match L fs' l :=
 ⟨h.nod,by rw [← hp.length_eq];exact h.len,fun p hm=>by
  obtain⟨f,h1,h2⟩:=h.has p hm
  exact⟨f,by rw [← look_perm hn hp];exact h1,h2⟩⟩
theorem Match.mem (h:Match L fs l) {s:Txt}(hs:s∈l.map (·.1)):s∈keys fs:=by
 obtain⟨p,hp,rfl⟩:=List.mem_map.1 hs
 obtain⟨f,h1,_⟩:=h.has p hp
 exact mem_keys (look_mem h1)
theorem Match.mem' (h:Match L fs l) {s:Txt}(hs:s∈keys fs):s∈l.map (·.1) :=
 sub_back h.nod (fun x hx=>h.mem hx) (by rw [List.length_map,h.len];unfold keys;rw [List.length_map];exact Nat.le_refl _) hs
def withF (l:LF) (s:Txt) (d:List Nat):LF:=l.filter (fun p=>decide (p.1≠s))++[(s,d)]
def withoutF (l:LF) (s:Txt):LF:=l.filter fun p=>decide (p.1≠s)
theorem without_names (l:LF) (s:Txt):(withoutF l s).map (·.1)=(l.map (·.1)).filter fun x=>decide (x≠s):=by
 unfold withoutF
 rw [List.filter_map]
 rfl
theorem Match.put (h:Match L fs l) {s:Txt}{f:Fi}{d:List Nat}(hs:s∉keys fs) (hf:Has L f d):Match L ((s,f) :: fs) (withF l s d):=by
 have hs':s∉l.map (·.1):=fun e=>hs (h.mem e)
 have e:l.filter (fun p=>decide (p.1≠s))=l:=List.filter_eq_self.2 fun p hp=>by
  have:p.1≠s:=fun e=>hs' (e ▸ List.mem_map.2 ⟨p,hp,rfl⟩)
  simpa using this
 unfold withF
 rw [e]
 refine⟨?_,by rw [List.length_append,List.length_cons,h.len];rfl,fun p hp=>?_⟩
 ·rw [List.map_append,List.nodup_append]
  refine⟨h.nod,by simp,?_⟩
  intro x hx y hy exy
  simp at hy
  subst hy
  subst exy
  exact hs' hx
 ·rcases List.mem_append.1 hp with hp | hp
  ·obtain⟨g,h1,h2⟩:=h.has p hp
   have hne:s≠p.1:=fun e=>hs' (e ▸ List.mem_map.2 ⟨p,hp,rfl⟩)
   exact⟨g,by unfold look;rw [if_neg hne];exact h1,h2⟩
  ·obtain rfl:=List.mem_singleton.1 hp
   exact⟨f,by unfold look;simp,hf⟩
theorem drop_len {fs:Fs}{s:Txt}(hn:(keys fs).Nodup) (hs:s∈keys fs):(drop fs s).length+1=fs.length:=by
 induction fs with
 | nil=>cases hs
 | cons p fs ih =>
  simp only [keys,List.map_cons,List.nodup_cons] at hn
  by_cases hp:p.1=s
  ·have:drop (p :: fs) s=fs:=by
    unfold drop
    rw [List.filter_cons]
    simp only [hp,ne_eq,not_true,decide_false,Bool.false_eq_true,if_false]
    rw [List.filter_eq_self]
    intro q hq
    have:q.1≠s:=fun e=>hn.1 (by rw [hp,← e];exact List.mem_map.2 ⟨_,hq,rfl⟩)
    simpa using this
   rw [this]
   rfl
  ·have:drop (p :: fs) s=p :: drop fs s:=by
    unfold drop
    rw [List.filter_cons]
    simp [hp]
   rw [this,List.length_cons,List.length_cons,ih hn.2]
   simp only [keys,List.map_cons,List.mem_cons] at hs
   rcases hs with rfl | hs
   ·exact absurd rfl hp
   ·exact hs
theorem without_len {l:LF}{s:Txt}(hn:(l.map (·.1)).Nodup) (hs:s∈l.map (·.1)):(withoutF l s).length+1=l.length:=by
 induction l with
 | nil=>cases hs
 | cons p l ih =>
  simp only [List.map_cons,List.nodup_cons] at hn
  by_cases hp:p.1=s
  ·have:withoutF (p :: l) s=l:=by
    unfold withoutF
    rw [List.filter_cons]
    simp only [hp,ne_eq,not_true,decide_false,Bool.false_eq_true,if_false]
    rw [List.filter_eq_self]
    intro q hq
    have:q.1≠s:=fun e=>hn.1 (by rw [hp,← e];exact List.mem_map.2 ⟨_,hq,rfl⟩)
    simpa using this
   rw [this]
   rfl
  ·have:withoutF (p :: l) s=p :: withoutF l s:=by
    unfold withoutF
    rw [List.filter_cons]
    simp [hp]
   rw [this,List.length_cons,List.length_cons,ih hn.2]
   simp only [List.map_cons,List.mem_cons] at hs
   rcases hs with rfl | hs
   ·exact absurd rfl hp
   ·exact hs
theorem Match.gone (h:Match L fs l) (hn:(keys fs).Nodup) {s:Txt}(hs:s∈keys fs):Match L (drop fs s) (withoutF l s):=by
 refine⟨?_,?_,fun p hp=>?_⟩
 ·rw [without_names]
  exact h.nod.sublist List.filter_sublist
 ·have h1:=drop_len hn hs
  have h2:=without_len h.nod (h.mem' hs)
  have h3:=h.len
  omega
 ·obtain⟨hp1,hp2⟩:=List.mem_filter.1 hp
  obtain⟨f,h1,h2⟩:=h.has p hp1
  have hne:p.1≠s:=by simpa using hp2
  exact⟨f,by rw [look_drop,if_neg hne];exact h1,h2⟩
end
end Go.Ext
namespace Go.Ext
open Go.Ix Line
theorem dir_len (l:Fs) (hn:(keys l).Nodup):(dirB l).length=dirLen l:=by
 unfold dirB
 rw [entries_sorted,List.length_append,low_len,← dirLen_perm (sorted_perm hn)]
 unfold dirLen
 congr 1
 induction sorted l with
 | nil=>rfl
 | cons p es ih =>
  rw [List.flatMap_cons,List.length_append,ih,List.map_cons,List.sum_cons]
  congr 1
  unfold fileB fileLen runsB
  have:((runsOf p.2.secs).flatMap runB).length=(runsOf p.2.secs).length * 4:=by
   induction runsOf p.2.secs with
   | nil=>rfl
   | cons r rs ih=>rw [List.flatMap_cons,List.length_append,ih,List.length_cons];simp [runB,low_len];omega
  simp only [List.length_cons,List.length_append,low_len,this]
  unfold octets
  rw [List.length_map]
  omega
theorem dir_byte (l:Fs):∀x∈dirB l,x<256:=by
 intro x hx
 unfold dirB at hx
 rcases List.mem_append.1 hx with hx | hx
 ·exact low_lt _ _ _ hx
 ·obtain⟨s,_,hx⟩:=List.mem_flatMap.1 hx
  unfold entryB at hx
  split at hx
  ·rename_i f _
   unfold fileB at hx
   simp only [List.mem_cons,List.mem_append] at hx
   rcases hx with rfl | hx | rfl | hx | hx | hx
   ·omega
   ·unfold octets at hx
    obtain⟨y,_,rfl⟩:=List.mem_map.1 hx
    exact y.toNat_lt
   ·have:=kind_le f
    omega
   ·exact low_lt _ _ _ hx
   ·exact low_lt _ _ _ hx
   ·exact runsB_byte _ x hx
  ·cases hx
section
variable {K:Dk}{n:Nat}
theorem write_cac (a:Nat) (b:Sec):∀p∈(K.write a b).cac,p∈K.cac∨p=(a,b):=by
 intro p hp
 unfold Dk.write at hp
 split at hp
 ·rcases List.mem_append.1 hp with hp | hp
  ·exact .inl hp
  ·exact .inr (List.mem_singleton.1 hp)
 ·rw [tick_cac] at hp
  exact .inl hp
theorem writes_all:∀(l:List (Nat×Sec)) (K:Dk),(∀p∈l,p.1<n∧p.2.length=256∧∀x∈p.2,x<256)→K.Ok n→K.dark=false →
  (K.writes l).2.Ok n∧(K.writes l).2.las=K.las∧(∀p∈(K.writes l).2.cac,p∈K.cac∨p∈l)∧(K.writes l).2.dark=!(K.writes l).1∧((K.writes l).1=true→(K.writes l).2.view=laid K.view l)
 | [],K,_,h,hd=>⟨h,rfl,fun p hp=>.inl hp,hd,fun _=>rfl⟩
 | p :: l,K,hl,h,hd=>by
  have hp:=hl p List.mem_cons_self
  have h1:=h.write (a:=p.1) hp.1 hp.2
  by_cases hok:K.ok=true
  ·have hw:K.writes (p :: l)=(K.write p.1 p.2).writes l:=by show (if K.ok then _ else _)=_;rw [if_pos hok]
   obtain⟨a1,a2,a3,a4,a5⟩:=writes_all l (K.write p.1 p.2) (fun q hq=>hl q (List.mem_cons_of_mem _ hq)) h1 (by rw [write_dark,hok];rfl)
   rw [hw]
   refine⟨a1,a2.trans (write_las _ _),fun q hq=>?_,a4,fun ht=>?_⟩
   ·rcases a3 q hq with h | h
    ·rcases write_cac _ _ q h with h | rfl
     ·exact .inl h
     ·exact .inr List.mem_cons_self
    ·exact .inr (List.mem_cons_of_mem _ h)
   ·rw [a5 ht,write_view,if_pos hok]
    rfl
  ·have hw:K.writes (p :: l)=(false,K.write p.1 p.2):=by show (if K.ok then _ else _)=_;rw [if_neg hok]
   rw [hw]
   refine⟨h1,write_las _ _,fun q hq=>?_,?_,fun ht=>by cases ht⟩
   ·rcases write_cac _ _ q hq with h | rfl
    ·exact .inl h
    ·exact .inr List.mem_cons_self
   ·show (K.write p.1 p.2).dark=_
    rw [write_dark]
    simp at hok
    rw [hok]
end
theorem laid_pieces (d:List Nat):∀(secs:List Nat) (k:Nat) (L:List Sec),secs.Nodup→(∀a∈secs,a<L.length)→content (laid L ((secs.zipIdx k).map fun p=>(p.1,piece d p.2))) secs=(List.range' k secs.length).flatMap (piece d)
 | [],_,_,_,_=>rfl
 | a :: l,k,L,hn,hl=>by
  rw [List.nodup_cons] at hn
  have ih:=laid_pieces d l (k+1) (L.set a (piece d k)) hn.2 fun b hb=>by rw [List.length_set];exact hl b (List.mem_cons_of_mem _ hb)
  rw [List.zipIdx_cons,List.map_cons]
  show content (laid (L.set a (piece d k)) _) (a :: l)=_
  unfold content at ih ⊢
  rw [List.flatMap_cons,ih,List.length_cons,List.range'_succ,List.flatMap_cons,List.getD_eq_getElem?_getD,laid_other a _ _ fun p hp=>?_,List.getElem?_set_self (hl a List.mem_cons_self)]
  ·rfl
  ·obtain⟨q,hq,rfl⟩:=List.mem_map.1 hp
   have:q.1∈l:=List.fst_mem_of_mem_zipIdx hq
   exact fun e=>hn.1 (e ▸ this)
theorem piece_eq (d:List Nat) (k:Nat):piece d k=(d.drop (k * 256)).take 256++List.replicate (256-(d.drop (k * 256)).length) 0:=by
 unfold piece
 generalize d.drop (k * 256)=e
 rw [List.length_take,show 256-min 256 e.length=256-e.length by omega]
theorem pieces_all (d:List Nat):∀(m k:Nat),(List.range' k m).flatMap (piece d)=(d.drop (k * 256)).take (m * 256)++List.replicate (m * 256-(d.drop (k * 256)).length) 0
 | 0,k=>by rw [List.range'_zero,List.flatMap_nil,Nat.zero_mul,List.take_zero,Nat.zero_sub,List.replicate_zero,List.append_nil]
 | m+1,k=>by
  rw [List.range'_succ,List.flatMap_cons,pieces_all d m (k+1),piece_eq]
  have hd:d.drop ((k+1) * 256)=(d.drop (k * 256)).drop 256:=by rw [List.drop_drop,show k * 256+256=(k+1) * 256 by omega]
  rw [hd]
  generalize d.drop (k * 256)=e
  rw [List.length_drop]
  by_cases hl:256≤e.length
  ·have h0:256-e.length=0:=by omega
   have h1:m * 256-(e.length-256)=(m+1) * 256-e.length:=by omega
   rw [h0,List.replicate_zero,List.append_nil,← List.append_assoc,← List.take_add,h1,show 256+m * 256=(m+1) * 256 by omega]
  ·have hd:e.drop 256=[]:=List.drop_of_length_le (by omega)
   rw [hd,List.take_nil,List.nil_append,List.append_assoc,List.replicate_append_replicate,List.take_of_length_le (by omega),List.take_of_length_le (by omega),show 256-e.length+(m * 256-(e.length-256))=(m+1) * 256-e.length by omega]
theorem content_pieces {L:List Sec}{secs d:List Nat}(hn:secs.Nodup) (hl:∀a∈secs,a<L.length) (hs:secs.length=need d.length):content (laid L (pieces secs d)) secs=d++List.replicate (secs.length * 256-d.length) 0:=by
 unfold pieces
 rw [laid_pieces d secs 0 L hn hl,pieces_all d secs.length 0,Nat.zero_mul,List.drop_zero,List.take_of_length_le (by rw [hs];unfold need;omega)]
theorem pieces_mem {secs d:List Nat}{p:Nat×Sec}(h:p∈pieces secs d):p.1∈secs∧p.2.length=256∧((∀x∈d,x<256)→∀x∈p.2,x<256):=by
 unfold pieces at h
 obtain⟨q,hq,rfl⟩:=List.mem_map.1 h
 exact⟨List.fst_mem_of_mem_zipIdx hq,piece_len _ _,fun h=>piece_byte h _⟩
def Held (dir:List Nat) (now:Fs) (a:Nat):Prop:=a=0∨a=1∨a∈dir∨∃q∈now,a∈q.2.secs
theorem Held.of {dir:List Nat}{now:Fs}{a:Nat}(h:a=0∨a=1∨a∈dir):Held dir now a:=by
 rcases h with h | h | h
 ·exact .inl h
 ·exact .inr (.inl h)
 ·exact .inr (.inr (.inl h))
structure Live (isN:Txt→Bool) (K:Dk) (g:G) (cur gen:Nat) (ln lx:LF):Prop where
 kok:K.Ok g.n
 lit:K.dark=false
 inv:Inv g
 base:Base isN g.n K.las cur gen g.dir g.now
 pend:∀p∈K.cac,¬ Held g.dir g.now p.1
 fineN:∀p∈g.now,FineD isN p
 fineX:∀p∈g.next,FineD isN p
 runs:(runsOf g.dir).length≤48
 fewN:g.now.length≤256
 fewX:g.next.length≤256
 mN:Match K.las g.now ln
 mX:Match K.view g.next lx
def Safe (isN:Txt→Bool) (n m:Nat) (L:List Sec) (l:LF):Prop:=∃cur gen dir fs,gen≤m∧Base isN n L cur gen dir fs∧Sound isN n dir fs∧Match L fs l
structure Dead (isN:Txt→Bool) (n m:Nat) (K:Dk) (ln lu:LF):Prop where
 kok:K.Ok n
 drk:K.dark=true
 safe:∀keep,Safe isN n m (K.cut keep).las ln∨Safe isN n m (K.cut keep).las lu
section
variable {isN:Txt→Bool}{K:Dk}{g:G}{cur gen:Nat}{ln lx:LF}
theorem Inv.nodN (h:Inv g):(g.dir++g.now.flatMap (·.2.secs)).Nodup:=nodup_of_le fun a=>by
 have h1:=h.A a
 have h2:=h.B a
 unfold G.base at h1
 omega
theorem Inv.nodX (h:Inv g):(g.next.flatMap (·.2.secs)).Nodup:=by
 have:=nodup_of_le (dir:=[]) (l:=g.next) fun a=>by
  have h1:=h.next_le a
  have h2:=h.B a
  simp
  omega
 simpa using this
theorem Inv.heldN (h:Inv g) {a:Nat}(ha:g.T a=0) (h2:2≤a):¬ Held g.dir g.now a:=by
 have h1:=h.A a
 unfold G.base at h1
 rintro (rfl | rfl | hd|⟨q,hq,hs⟩)
 ·omega
 ·omega
 ·have:=List.count_pos_iff.2 hd
  omega
 ·have:=cntF_pos hq hs
  omega
theorem Inv.heldX (h:Inv g) {a:Nat}(ha:g.T a=0):∀q∈g.next,a∉q.2.secs:=fun q hq hs=>by
 have h1:=h.next_le a
 have:=cntF_pos hq hs
 omega
theorem Live.sound (h:Live isN K g cur gen ln lx):Sound isN g.n g.dir g.now :=
 ⟨h.inv.lo,h.inv.hi,h.inv.kn,h.inv.nodN,h.inv.D,h.fineN,fun p hp a ha=>((h.inv.R p hp).1 a ha).2,h.inv.S,h.runs,h.fewN⟩
theorem Live.safe_of (h:Live isN K g cur gen ln lx) {m:Nat}(hm:gen≤m) {L:List Sec}(hs:∀a,Held g.dir g.now a→L[a]?=K.las[a]?):Safe isN g.n m L ln :=
 ⟨cur,gen,g.dir,g.now,hm,h.base.same fun a ha=>hs a (Held.of ha),h.sound,h.mN.same fun p hp a ha=>hs a (.inr (.inr (.inr ⟨p,hp,ha⟩)))⟩
theorem Live.cut (h:Live isN K g cur gen ln lx) {m:Nat}(hm:gen≤m) (keep:Nat→Bool):Safe isN g.n m (K.cut keep).las ln :=
 h.safe_of hm fun a ha=>laid_other a _ _ fun p hp e=>h.pend p (kept_mem hp) (e ▸ ha)
theorem Live.beside (h:Live isN K g cur gen ln lx) {K':Dk}(hk:K'.Ok g.n) (hl:K'.las=K.las) (hd:K'.dark=false) (hc:∀p∈K'.cac,¬ Held g.dir g.now p.1) (hv:∀q∈g.next,∀a∈q.2.secs,K'.view[a]?=K.view[a]?):Live isN K' g cur gen ln lx :=
 ⟨hk,hd,h.inv,by rw [hl];exact h.base,hc,h.fineN,h.fineX,h.runs,h.fewN,h.fewX,by rw [hl];exact h.mN,h.mX.same hv⟩
theorem Live.dies (h:Live isN K g cur gen ln lx) {K':Dk}{m:Nat}(hm:gen≤m) (hk:K'.Ok g.n) (hl:K'.las=K.las) (hd:K'.dark=true) (hc:∀p∈K'.cac,¬ Held g.dir g.now p.1) (lu:LF):Dead isN g.n m K' ln lu :=
 ⟨hk,hd,fun keep=>.inl (h.safe_of hm fun a ha=>by
  show (laid K'.las _)[a]?=_
  rw [laid_other a _ _ fun p hp e=>hc p (kept_mem hp) (e ▸ ha),hl])⟩
theorem Live.tick (h:Live isN K g cur gen ln lx) (hok:K.ok=true):Live isN K.tick g cur gen ln lx :=
 h.beside h.kok.tick (tick_las K) (by rw [tick_dark,hok];rfl) (by rw [tick_cac];exact h.pend) fun _ _ _ _=>by rw [tick_view]
theorem Live.tick_dies (h:Live isN K g cur gen ln lx) {m:Nat}(hm:gen≤m) (hok:K.ok=false) (lu:LF):Dead isN g.n m K.tick ln lu :=
 h.dies hm h.kok.tick (tick_las K) (by rw [tick_dark,hok];rfl) (by rw [tick_cac];exact h.pend) lu
theorem Live.writes (h:Live isN K g cur gen ln lx) {m:Nat}(hm:gen≤m) {l d:List Nat}(hr:Room g l) (hd:∀x∈d,x<256) :
  ((K.writes (pieces l d)).1=true→Live isN (K.writes (pieces l d)).2 g cur gen ln lx∧(K.writes (pieces l d)).2.view=laid K.view (pieces l d))∧((K.writes (pieces l d)).1=false→∀lu,Dead isN g.n m (K.writes (pieces l d)).2 ln lu):=by
 have hp:∀p∈pieces l d,p.1<g.n∧p.2.length=256∧∀x∈p.2,x<256:=fun p hp=>by
  obtain⟨h1,h2,h3⟩:=pieces_mem hp
  exact⟨(hr.2 _ h1).1.2,h2,h3 hd⟩
 obtain⟨a1,a2,a3,a4,a5⟩:=writes_all (n:=g.n) (pieces l d) K hp h.kok h.lit
 have hc:∀p∈(K.writes (pieces l d)).2.cac,¬ Held g.dir g.now p.1:=fun p hq=>by
  rcases a3 p hq with hq | hq
  ·exact h.pend p hq
  ·obtain⟨h1,h2⟩:=hr.2 _ (pieces_mem hq).1
   exact h.inv.heldN h2 h1.1
 refine⟨fun ht=>⟨h.beside a1 a2 (by rw [a4,ht];rfl) hc fun q hq a ha=>?_,a5 ht⟩,fun ht lu=>h.dies hm a1 a2 (by rw [a4,ht];rfl) hc lu⟩
 rw [a5 ht]
 exact laid_other a _ _ fun p hq' e=>h.inv.heldX (hr.2 _ (pieces_mem hq').1).2 q hq (e ▸ ha)
theorem Live.put (h:Live isN K g cur gen ln lx) {s:Txt}{l d:List Nat}(hs:s∉keys g.next) (hr:Room g l) (hl:l.length=need d.length) (h48:(runsOf l).length≤48) (hd:∀x∈d,x<256) (hz:d.length≤1000000) (hn:isN s=true) (hs1:s.length<256) (hs0:s≠[]) (hfew:g.next.length<256) (ht:(K.writes (pieces l d)).1=true) :
  Live isN (K.writes (pieces l d)).2 { g with next:=(s,⟨false,d.length,(crc d:Nat),l⟩) :: g.next,T:=fun a=>g.T a+1 * ((l.count a:Nat):Int),undo:=g.undo++[(l,-1)] } cur gen ln (withF lx s d):=by
 obtain⟨h1,h2⟩:=(h.writes (Nat.le_refl gen) hr hd).1 ht
 have hc:=content_pieces (L:=K.view) hr.1 (fun a ha=>by rw [h.kok.view.1];exact (hr.2 a ha).1.2) hl
 have hcs:=crc_small hd
 refine⟨h1.kok,h1.lit,h.inv.stage (f:=⟨false,d.length,(crc d:Nat),l⟩) hs hr hl hz,h1.base,h1.pend,h.fineN,fun p hp=>?_,h.runs,h.fewN,hfew,h1.mN,h1.mX.put hs ⟨rfl,rfl,?_⟩⟩
 ·rcases List.mem_cons.1 hp with rfl | hp
  ·exact⟨⟨hn,hs1,by show d.length<_;omega,⟨by show (0:Int)≤(crc d:Nat);omega,by show ((crc d:Nat):Int)<_;omega⟩,(fun e=>by cases e),hl,h48,hr.1,fun a ha=>(hr.2 a ha).1.1⟩,hs0,rfl⟩
  ·exact h.fineX p hp
 ·rw [h2]
  show (content (laid K.view (pieces l d)) l).take d.length=d
  rw [hc,List.take_left' rfl]
theorem Live.gone (h:Live isN K g cur gen ln lx) {s:Txt}{f:Fi}(hs:look g.next s=some f) (hn:isNew g.now f=true) :
  Live isN K { g with next:=drop g.next s,T:=fun a=>g.T a+(-1) * ((f.secs.count a:Nat):Int),undo:=g.undo++[(f.secs,1)] } cur gen ln (withoutF lx s) :=
 ⟨h.kok,h.lit,h.inv.gone hs hn,h.base,h.pend,h.fineN,fun p hp=>h.fineX p (List.mem_filter.1 hp).1,h.runs,h.fewN,Nat.le_trans (List.length_filter_le _ _) h.fewX,h.mN,h.mX.gone h.inv.kx (mem_keys (look_mem hs))⟩
theorem Live.hidden (h:Live isN K g cur gen ln lx) {s:Txt}{f:Fi}(hs:look g.next s=some f) (hn:isNew g.now f=false) :
  Live isN K { g with next:=drop g.next s } cur gen ln (withoutF lx s) :=
 ⟨h.kok,h.lit,h.inv.hidden hs hn,h.base,h.pend,h.fineN,fun p hp=>h.fineX p (List.mem_filter.1 hp).1,h.runs,h.fewN,Nat.le_trans (List.length_filter_le _ _) h.fewX,h.mN,h.mX.gone h.inv.kx (mem_keys (look_mem hs))⟩
theorem Live.view_now (h:Live isN K g cur gen ln lx) {a:Nat}(ha:Held g.dir g.now a):K.view[a]?=K.las[a]?:=laid_other a _ _ fun p hp e=>h.pend p hp (e ▸ ha)
theorem Live.mV (h:Live isN K g cur gen ln lx):Match K.view g.now ln:=h.mN.same fun p hp a ha=>h.view_now (.inr (.inr (.inr ⟨p,hp,ha⟩)))
theorem Live.dropped (h:Live isN K g cur gen ln lx):Live isN K { g with next:=g.now,T:=fun a=>g.T a+undoSum g.undo a,undo:=[] } cur gen ln ln :=
 ⟨h.kok,h.lit,h.inv.dropped,h.base,h.pend,h.fineN,h.fineN,h.runs,h.fewN,h.fewN,h.mN,h.mV⟩
theorem Live.flush (h:Live isN K g cur gen ln lx) (hok:K.ok=true):Live isN K.flush g cur gen ln lx∧K.flush.cac=[]∧K.flush.las=K.view:=by
 have hf:K.flush={ K.tick with las:=K.view,cac:=[] }:=by unfold Dk.flush;rw [if_pos hok]
 have hl:K.flush.las=K.view:=by rw [hf]
 have hc:K.flush.cac=[]:=by rw [hf]
 refine⟨⟨h.kok.flush,by rw [flush_dark,hok];rfl,h.inv,?_,(by rw [hc];exact fun p hp=>(by cases hp)),h.fineN,h.fineX,h.runs,h.fewN,h.fewX,by rw [hl];exact h.mV,by rw [flush_view];exact h.mX⟩,hc,hl⟩
 rw [hl]
 exact h.base.same fun a ha=>h.view_now (Held.of ha)
theorem Live.flush_dies (h:Live isN K g cur gen ln lx) {m:Nat}(hm:gen≤m) (hok:K.ok=false) (lu:LF):Dead isN g.n m K.flush ln lu:=by
 have hf:K.flush=K.tick:=by unfold Dk.flush;rw [if_neg (by rw [hok];decide)]
 rw [hf]
 exact h.tick_dies hm hok lu
end
end Go.Ext
namespace Go.Ext
open Go.Ix Line
section
variable {isN:Txt→Bool}{K:Dk}{g:G}{cur gen:Nat}{ln lx:LF}
def committed (g:G) (l:List Nat):G:={ g with dir:=l,now:=g.next,next:=g.next,T:=fun a=>((l.count a:Nat):Int)+((cntF g.next a:Nat):Int),undo:=[] }
theorem slot_mag (gen:Nat) (d l:List Nat):(slotB gen d l).take 4=magicB:=by
 unfold slotB bodyB headB
 simp only [List.append_assoc]
 exact List.take_left' rfl
theorem Live.commit (h:Live isN K g cur gen ln lx) (hc:K.cac=[]) {l:List Nat}(hr:Room g l) (hl:l.length=need (dirB g.next).length) (h48:(runsOf l).length≤48) (hg:gen<4611686018427387904)
  (hcon:content K.las l=dirB g.next++List.replicate (l.length * 256-(dirB g.next).length) 0) {K':Dk}(hk:K'.Ok g.n) (hd:K'.dark=false) (hl':K'.las=K.las.set (1-cur) (slotB (gen+1) (dirB g.next) l)) (hc':K'.cac=[]) :
  Live isN K' (committed g l) (1-cur) (gen+1) lx lx:=by
 have hnd:=h.inv.nodX
 have hdl:=dir_len g.next h.inv.kx
 have h1:=h.base.one
 have hln:=h.kok.len
 have hlo:=h.inv.lo
 have hhi:=h.inv.hi
 have hap:∀p∈g.next,∀a∈p.2.secs,a<g.n∧a∉l:=fun p hp a ha=>⟨((h.inv.X p hp).1 a ha).2,fun hal=>h.inv.heldX (hr.2 a hal).2 p hp ha⟩
 have hsmall:(dirB g.next).length≤62 * 256:=by
  have h6:=sub_len hr.1 (k:=List.range g.n) fun a ha=>List.mem_range.2 (hr.2 a ha).1.2
  rw [List.length_range,hl] at h6
  unfold need at h6
  omega
 have hgood:=good_ok (isN:=isN) (n:=g.n) (gen:=gen+1) (L:=K.las) (l:=g.next) (secs:=l) (by omega) (by omega) h48 (fun a ha=>(hr.2 a ha).1) hr.1 hl (by omega) (dir_byte _) hcon h.inv.kx (fun p hp=>⟨(h.fineX p hp).1,(h.fineX p hp).2.1⟩) hnd hap h.fewX
 have hother:∀a,2≤a→K'.las[a]?=K.las[a]?:=fun a ha=>by rw [hl',List.getElem?_set_ne (by omega)]
 have hnew:sec K'.las (1-cur)=slotB (gen+1) (dirB g.next) l:=by
  unfold sec
  rw [List.getD_eq_getElem?_getD,hl',List.getElem?_set_self (by omega)]
  rfl
 have hold:sec K'.las (1-(1-cur))=sec K.las cur:=by
  rw [show 1-(1-cur)=cur by omega]
  exact sec_same (by rw [hl',List.getElem?_set_ne (by omega)])
 obtain⟨F,d,hF,_⟩:=h.base.can
 have hgen:=good_gen hF
 have hv:K'.view=K'.las:=by unfold Dk.view;rw [hc'];rfl
 have hv0:K.view=K.las:=by unfold Dk.view;rw [hc];rfl
 have hm:Match K'.las g.next lx:=by
  have:=h.mX
  rw [hv0] at this
  exact this.same fun p hp a ha=>hother a (h.fineX p hp |>.1.two a ha)
 exact⟨hk,hd,h.inv.made hr (by rw [hl,hdl]),⟨by omega,by rw [hnew];exact slot_mag _ _ _,⟨_,_,by rw [hnew];exact good_same hgood fun a ha=>hother a (hr.2 a ha).1.1,(List.reverse_perm _).trans (sorted_perm h.inv.kx)⟩,.inr (by rw [hold,← hgen];exact Nat.lt_succ_self _)⟩,
  by rw [hc'];exact fun p hp=>(by cases hp),h.fineX,h.fineX,h48,h.fewX,h.fewX,hm,by rw [hv];exact hm⟩
theorem Live.commit_dies (h:Live isN K g cur gen ln lx) (hc:K.cac=[]) {l:List Nat}(hr:Room g l) (hl:l.length=need (dirB g.next).length) (h48:(runsOf l).length≤48) (hg:gen<4611686018427387904)
  (hcon:content K.las l=dirB g.next++List.replicate (l.length * 256-(dirB g.next).length) 0) {K':Dk}(hk:K'.Ok g.n) (hd:K'.dark=true) (hl':K'.las=K.las) (hc':K'.cac=[(1-cur,slotB (gen+1) (dirB g.next) l)]) {m:Nat}(hm:gen+1≤m) :
  Dead isN g.n m K' ln lx:=by
 refine⟨hk,hd,fun keep=>?_⟩
 cases hb:keep 0 with
 | false =>
  have:(K'.cut keep).las=K.las:=by
   show laid K'.las (kept keep K'.cac)=_
   rw [hc',hl']
   unfold kept
   simp [hb,laid]
  rw [this]
  exact .inl (h.safe_of (by omega) fun _ _=>rfl)
 | true =>
  have hlas:(K'.cut keep).las=K.las.set (1-cur) (slotB (gen+1) (dirB g.next) l):=by
   show laid K'.las (kept keep K'.cac)=_
   rw [hc',hl']
   unfold kept
   simp [hb,laid]
  have:=h.commit hc hr hl h48 hg hcon (K':=K'.cut keep) (hk.cut keep) rfl hlas rfl
  exact .inr (this.safe_of hm fun _ _=>rfl)
end
def tryAt (isN:Txt→Bool) (n:Nat) (L:List Sec) (i:Nat):Option Got:=if (sec L i).take 4=magicB then good isN n L (sec L i) else none
theorem Base.here {isN:Txt→Bool}{n cur gen:Nat}{L:List Sec}{dir:List Nat}{now:Fs}(h:Base isN n L cur gen dir now):∃F d,tryAt isN n L cur=some ⟨gen,dir,F,d⟩∧F.Perm now:=by
 obtain⟨F,d,h1,h2⟩:=h.can
 exact⟨F,d,by unfold tryAt;rw [if_pos h.mag];exact h1,h2⟩
theorem Base.there {isN:Txt→Bool}{n cur gen:Nat}{L:List Sec}{dir:List Nat}{now:Fs}(h:Base isN n L cur gen dir now) {r:Got}(hr:tryAt isN n L (1-cur)=some r):r.gen<gen:=by
 unfold tryAt at hr
 split at hr
 ·rename_i hm
  rcases h.old with ho | ho
  ·exact absurd hm ho
  ·rw [good_gen hr]
   exact ho
 ·cases hr
theorem live_opened {isN:Txt→Bool}{n cur gen:Nat}{K:Dk}{dir:List Nat}{now F:Fs}{l:LF}(hk:K.Ok n) (hd:K.dark=false) (hc:K.cac=[]) (hb:Base isN n K.las cur gen dir now) (hs:Sound isN n dir now) (hm:Match K.las now l) (hp:F.Perm now):Live isN K (opened n dir F) cur gen l l:=by
 have hv:K.view=K.las:=by unfold Dk.view;rw [hc];rfl
 have hs':=hs.perm hp.symm
 have hm':=hm.perm hs.kn hp.symm
 exact⟨hk,hd,hs'.inv,hb.perm hp.symm,by rw [hc];exact fun p hp=>(by cases hp),hs'.fine,hs'.fine,hs.runs,hs'.few,hs'.few,hm',by rw [hv];exact hm'⟩
def readsB (L:List Sec) (fs:Fs) (l:LF):Bool:=decide (fs.length=l.length) && l.all fun p=>match look fs p.1 with
 | none=>false
 | some f=>!f.log && decide (((crc ((content L f.secs).take f.size):Nat):Int)=f.sum) && decide ((content L f.secs).take f.size=p.2)
theorem content_len {L:List Sec}{secs:List Nat}(hL:∀b∈L,b.length=256) (hs:∀a∈secs,a<L.length):(content L secs).length=secs.length * 256:=by
 unfold content
 induction secs with
 | nil=>simp
 | cons a l ih =>
  rw [List.flatMap_cons,List.length_append,ih fun b hb=>hs b (List.mem_cons_of_mem _ hb),List.length_cons,List.getD_eq_getElem?_getD,List.getElem?_eq_getElem (hs a List.mem_cons_self)]
  show (L[a]'(hs a List.mem_cons_self)).length+_=_
  rw [hL _ (List.getElem_mem _)]
  omega
theorem readsB_match {L:List Sec}{fs:Fs}{l:LF}(hL:∀b∈L,b.length=256) (hf:∀p∈fs,p.2.log=false∧p.2.secs.length=need p.2.size∧∀a∈p.2.secs,a<L.length) (hn:(l.map (·.1)).Nodup):readsB L fs l=true↔Match L fs l:=by
 unfold readsB
 rw [Bool.and_eq_true,decide_eq_true_eq,List.all_eq_true]
 constructor
 ·rintro⟨h1,h2⟩
  refine⟨hn,h1.symm,fun p hp=>?_⟩
  have h3:=h2 p hp
  cases hk:look fs p.1 with
  | none=>rw [hk] at h3;cases h3
  | some f =>
   rw [hk] at h3
   simp only [Bool.and_eq_true,Bool.not_eq_true',decide_eq_true_eq] at h3
   obtain⟨⟨_,h4⟩,h5⟩:=h3
   obtain⟨_,h6,h7⟩:=hf _ (look_mem hk)
   have h8:=content_len hL h7
   refine⟨f,rfl,?_,by rw [← h5,h4],h5⟩
   have h6':f.secs.length=need f.size:=h6
   rw [← h5,List.length_take,h8,h6']
   unfold need
   omega
 ·intro h
  refine⟨h.len.symm,fun p hp=>?_⟩
  obtain⟨f,h1,h2,h3,h4⟩:=h.has p hp
  rw [h1]
  simp only [Bool.and_eq_true,Bool.not_eq_true',decide_eq_true_eq]
  exact⟨⟨(hf _ (look_mem h1)).1,by rw [h4,h3]⟩,h4⟩
theorem Live.reads {isN:Txt→Bool}{K:Dk}{g:G}{cur gen:Nat}{ln lx:LF}(h:Live isN K g cur gen ln lx) {l:LF}(hn:(l.map (·.1)).Nodup):readsB K.view g.now l=true↔Match K.view g.now l :=
 readsB_match (fun b hb=>(h.kok.view.2 b hb).1) (fun p hp=>⟨(h.fineN p hp).2.2,(h.inv.R p hp).2.1,fun a ha=>by rw [h.kok.view.1];exact ((h.inv.R p hp).1 a ha).2⟩) hn
theorem live_new {isN:Txt→Bool}{n:Nat}{K:Dk}(h3:3≤n) (h62:n≤62) (hk:K.Ok n) (hd:K.dark=false) (hc:K.cac=[]) (h0:sec K.las 0=slotB 1 (dirB []) [2]) (h1:sec K.las 1=List.replicate 256 0) (h2:K.las[2]?=some (dirB []++List.replicate 254 0)):Live isN K (opened n [2] []) 0 1 [] []:=by
 have hdl:(dirB []).length=2:=dir_len [] List.nodup_nil
 have hcon:content K.las [2]=dirB []++List.replicate ([2].length * 256-(dirB []).length) 0:=by
  unfold content
  rw [List.flatMap_cons,List.flatMap_nil,List.append_nil,List.getD_eq_getElem?_getD,h2,hdl]
  rfl
 have hs:Sound isN n [2] []:=⟨h3,h62,List.nodup_nil,by simp,fun a ha=>by simp at ha;omega,fun p hp=>(by cases hp),fun p hp=>(by cases hp),by decide,by decide,Nat.zero_le _⟩
 have hg:=good_ok (isN:=isN) (n:=n) (gen:=1) (L:=K.las) (l:=[]) (secs:=[2]) (by decide) (by omega) (by decide) hs.two (by simp) (by rw [hdl];decide) (by omega) (dir_byte _) hcon List.nodup_nil (fun p hp=>(by cases hp)) List.nodup_nil (fun p hp=>(by cases hp)) (Nat.zero_le _)
 refine live_opened hk hd hc (now:=[]) ⟨Nat.zero_le _,by rw [h0];exact slot_mag _ _ _,⟨_,_,by rw [h0];exact hg,(List.reverse_perm _).trans (sorted_perm List.nodup_nil)⟩,.inl ?_⟩ hs ⟨List.nodup_nil,rfl,fun p hp=>(by cases hp)⟩ (List.Perm.refl _)
 rw [h1]
 decide
end Go.Ext
namespace Go.Ext
def lastOf (l:List (Nat×Sec)) (a:Nat):Option Nat:=l.zipIdx.foldl (fun o p=>if p.1.1=a then some p.2 else o) none
theorem lastOf_snoc (l:List (Nat×Sec)) (p:Nat×Sec) (a:Nat):lastOf (l++[p]) a=if p.1=a then some l.length else lastOf l a:=by
 unfold lastOf
 rw [List.zipIdx_append,List.foldl_append]
 simp
theorem last_gen (a:Nat):∀(l:List (Nat×Sec)) (k:Nat) (o:Option Nat) (L:List Sec),a<L.length →
  (∃j p,(l.zipIdx k).foldl (fun o p=>if p.1.1=a then some p.2 else o) o=some (k+j)∧l[j]?=some p∧p.1=a∧(laid L l)[a]?=some p.2)∨((l.zipIdx k).foldl (fun o p=>if p.1.1=a then some p.2 else o) o=o∧(laid L l)[a]?=L[a]?)
 | [],k,o,L,_=>.inr ⟨rfl,rfl⟩
 | p :: l,k,o,L,hL=>by
  rw [List.zipIdx_cons,List.foldl_cons]
  have hs:laid L (p :: l)=laid (L.set p.1 p.2) l:=rfl
  rw [hs]
  rcases last_gen a l (k+1) (if p.1=a then some k else o) (L.set p.1 p.2) (by rw [List.length_set];exact hL) with ⟨j,q,h1,h2,h3,h4⟩|⟨h1,h2⟩
  ·exact .inl ⟨j+1,q,by rw [h1];congr 1;omega,by simpa using h2,h3,h4⟩
  ·by_cases hp:p.1=a
   ·refine .inl ⟨0,p,?_,rfl,hp,?_⟩
    ·rw [h1,if_pos hp]
     rfl
    ·rw [h2,hp,List.getElem?_set_self hL]
   ·refine .inr ⟨?_,?_⟩
    ·rw [h1,if_neg hp]
    ·rw [h2,List.getElem?_set_ne hp]
theorem view_last {K:Dk}{a:Nat}(ha:a<K.las.length):(∃j p,lastOf K.cac a=some j∧K.cac[j]?=some p∧p.1=a∧K.view[a]?=some p.2)∨(lastOf K.cac a=none∧K.view[a]?=K.las[a]?):=by
 rcases last_gen a K.cac 0 none K.las ha with ⟨j,p,h1,h2,h3,h4⟩ | h
 ·exact .inl ⟨j,p,by unfold lastOf;rw [h1];congr 1;omega,h2,h3,h4⟩
 ·exact .inr h
end Go.Ext
