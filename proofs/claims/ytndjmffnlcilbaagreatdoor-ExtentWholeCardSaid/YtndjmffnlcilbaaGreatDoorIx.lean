/- What a store of files has, checksums, rising lists: plain laws, no program. No conditions. -/
import Derived.Laws.BitsLemmas
set_option linter.unusedSimpArgs false
set_option linter.unusedVariables false
set_option linter.deprecated false
set_option linter.unnecessarySimpa false
namespace Go.Ix
class Line (α:Type) where
 lt:α→α→Prop
 irrefl:∀a,¬ lt a a
 trans:∀a b c,lt a b→lt b c→lt a c
 tri:∀a b,lt a b∨a=b∨lt b a
open Line
variable {α:Type} [Line α]
def Rising (l:List α):Prop:=l.Pairwise lt
theorem asymm {a b:α}(h:lt a b):¬ lt b a:=fun h'=>irrefl a (trans _ _ _ h h')
theorem rising_eq:∀{l m:List α},Rising l→Rising m→(∀x,x∈l↔x∈m)→l=m
 | [],[],_,_,_=>rfl
 | [],b :: m,_,_,h=>absurd ((h b).2 (by simp)) (by simp)
 | a :: l,[],_,_,h=>absurd ((h a).1 (by simp)) (by simp)
 | a :: l,b :: m,h1,h2,h=>by
  have p1:=List.pairwise_cons.1 h1
  have p2:=List.pairwise_cons.1 h2
  have hab:a=b:=by
   rcases List.mem_cons.1 ((h a).1 (by simp)) with e | e
   ·exact e
   ·rcases List.mem_cons.1 ((h b).2 (by simp)) with e' | e'
    ·exact e'.symm
    ·exact absurd (p2.1 a e) (asymm (p1.1 b e'))
  subst hab
  congr 1
  refine rising_eq p1.2 p2.2 fun x=>⟨fun hx=>?_,fun hx=>?_⟩
  ·rcases List.mem_cons.1 ((h x).1 (List.mem_cons_of_mem _ hx)) with e | e
   ·exact absurd (e ▸ p1.1 x hx) (irrefl _)
   ·exact e
  ·rcases List.mem_cons.1 ((h x).2 (List.mem_cons_of_mem _ hx)) with e | e
   ·exact absurd (e ▸ p2.1 x hx) (irrefl _)
   ·exact e
instance:Line Nat:=⟨(· < ·),fun _=>Nat.lt_irrefl _,fun _ _ _=>Nat.lt_trans,fun a b=>Nat.lt_trichotomy a b⟩
instance {β:Type} [Line β]:Line (α×β) where
 lt a b:=lt a.1 b.1∨(a.1=b.1∧lt a.2 b.2)
 irrefl a:=by rintro (h|⟨_,h⟩)<;>exact irrefl _ h
 trans a b c:=by
  rintro (h|⟨e,h⟩) (k|⟨e',k⟩)
  ·exact .inl (trans _ _ _ h k)
  ·exact .inl (e' ▸ h)
  ·exact .inl (e ▸ k)
  ·exact .inr ⟨e.trans e',trans _ _ _ h k⟩
 tri a b:=by
  obtain⟨a1,a2⟩:=a
  obtain⟨b1,b2⟩:=b
  rcases tri a1 b1 with h | rfl | h
  ·exact .inl (.inl h)
  ·rcases tri a2 b2 with h | rfl | h
   ·exact .inl (.inr ⟨rfl,h⟩)
   ·exact .inr (.inl rfl)
   ·exact .inr (.inr (.inr ⟨rfl,h⟩))
  ·exact .inr (.inr (.inl h))
def listLt:List α→List α→Prop
 | [],[]=>False
 | [],_ :: _=>True
 | _ :: _,[]=>False
 | a :: l,b :: m=>lt a b∨(a=b∧listLt l m)
theorem listLt_irrefl:∀l:List α,¬ listLt l l
 | []=>id
 | a :: l=>by rintro (h|⟨_,h⟩);exact irrefl _ h;exact listLt_irrefl l h
theorem listLt_trans:∀a b c:List α,listLt a b→listLt b c→listLt a c
 | _,[],[],_,h=>h.elim
 | [],[],_ :: _,h,_=>h.elim
 | [],_ :: _,[],_,h=>h.elim
 | [],_ :: _,_ :: _,_,_=>trivial
 | _ :: _,[],_ :: _,h,_=>h.elim
 | _ :: _,_ :: _,[],_,h=>h.elim
 | a :: l,b :: m,c :: r,h,k=>by
  rcases h with h|⟨rfl,h⟩<;>rcases k with k|⟨rfl,k⟩
  ·exact .inl (trans _ _ _ h k)
  ·exact .inl h
  ·exact .inl k
  ·exact .inr ⟨rfl,listLt_trans _ _ _ h k⟩
theorem listLt_tri:∀a b:List α,listLt a b∨a=b∨listLt b a
 | [],[]=>.inr (.inl rfl)
 | [],_ :: _=>.inl trivial
 | _ :: _,[]=>.inr (.inr trivial)
 | a :: l,b :: m=>by
  rcases tri a b with h | rfl | h
  ·exact .inl (.inl h)
  ·rcases listLt_tri l m with h | rfl | h
   ·exact .inl (.inr ⟨rfl,h⟩)
   ·exact .inr (.inl rfl)
   ·exact .inr (.inr (.inr ⟨rfl,h⟩))
  ·exact .inr (.inr (.inl h))
instance:Line (List α):=⟨listLt,listLt_irrefl,listLt_trans,listLt_tri⟩
end Go.Ix
namespace Go.Ix
open Line
abbrev Txt:=List UInt8
instance:Line Txt where
 lt a b:=a<b
 irrefl a:=List.lt_irrefl a
 trans a b c h k:=List.lt_trans h k
 tri a b:=by
  by_cases h:a<b
  ·exact .inl h
  ·by_cases k:b<a
   ·exact .inr (.inr k)
   ·exact .inr (.inl (List.le_antisymm (List.not_lt.1 k) (List.not_lt.1 h)))
def put (l:List Txt) (s:Txt):List Txt:=if s∈l then l else l.filter (fun z=>decide (z<s))++s :: l.filter (fun z=>decide (s<z))
def rise (zs:List Txt):List Txt:=zs.foldl put []
theorem mem_put {l:List Txt}{s x:Txt}:x∈put l s↔x∈l∨x=s:=by
 unfold put
 split
 ·rename_i h
  constructor
  ·exact .inl
  ·rintro (h' | rfl)
   ·exact h'
   ·exact h
 ·rename_i h
  simp only [List.mem_append,List.mem_filter,List.mem_cons,decide_eq_true_eq]
  constructor
  ·rintro (⟨h1,_⟩ | rfl|⟨h1,_⟩)
   ·exact .inl h1
   ·exact .inr rfl
   ·exact .inl h1
  ·rintro (h1 | rfl)
   ·rcases tri (α:=Txt) x s with h2 | rfl | h2
    ·exact .inl ⟨h1,h2⟩
    ·exact absurd h1 h
    ·exact .inr (.inr ⟨h1,h2⟩)
   ·exact .inr (.inl rfl)
theorem put_rising {l:List Txt}{s:Txt}(h:Rising l):Rising (put l s):=by
 unfold put
 split
 ·exact h
 ·unfold Rising at *
  rw [List.pairwise_append]
  refine⟨h.sublist List.filter_sublist,List.pairwise_cons.2 ⟨fun z hz=>?_,h.sublist List.filter_sublist⟩,fun a ha b hb=>?_⟩
  ·have h9:s<z:=by simpa using (List.mem_filter.1 hz).2
   exact h9
  ·have ha2:a<s:=by simpa using (List.mem_filter.1 ha).2
   rcases List.mem_cons.1 hb with rfl | hb
   ·exact ha2
   ·have hb2:s<b:=by simpa using (List.mem_filter.1 hb).2
    exact List.lt_trans ha2 hb2
theorem foldl_put (zs l:List Txt) (h:Rising l):Rising (zs.foldl put l)∧∀x,x∈zs.foldl put l↔x∈l∨x∈zs:=by
 induction zs generalizing l with
 | nil=>exact⟨h,fun x=>by simp⟩
 | cons z zs ih =>
  obtain⟨h1,h2⟩:=ih (put l z) (put_rising h)
  refine⟨h1,fun x=>?_⟩
  show x∈zs.foldl put (put l z)↔_
  rw [h2,mem_put,List.mem_cons,or_assoc]
theorem rise_rising (zs:List Txt):Rising (rise zs):=(foldl_put zs [] List.Pairwise.nil).1
theorem mem_rise {zs:List Txt}{x:Txt}:x∈rise zs↔x∈zs:=by
 have:=(foldl_put zs [] List.Pairwise.nil).2 x
 simpa [rise] using this
theorem sorted_rise {ss zs:List Txt}(hn:ss.Nodup) (hm:∀x,x∈ss↔x∈zs):ss.mergeSort (fun x y=>decide (x≤y))=rise zs:=by
 have tr:∀a b c:Txt,decide (a≤b)=true→decide (b≤c)=true→decide (a≤c)=true:=fun a b c h1 h2=>by
  simp only [decide_eq_true_eq] at *
  exact List.le_trans h1 h2
 have to:∀a b:Txt,(decide (a≤b) || decide (b≤a))=true:=fun a b=>by
  simp only [Bool.or_eq_true,decide_eq_true_eq]
  exact List.le_total a b
 have hs:=List.pairwise_mergeSort (le:=fun x y:Txt=>decide (x≤y)) tr to ss
 have hp:=List.mergeSort_perm ss (fun x y:Txt=>decide (x≤y))
 refine rising_eq ?_ (rise_rising zs) fun x=>?_
 ·have hn2:=hp.nodup_iff.2 hn
  unfold Rising
  refine (hs.and hn2).imp fun {a b} ⟨h1,h2⟩=>?_
  have h1:a≤b:=by simpa using h1
  rcases tri (α:=Txt) a b with h | h | h
  ·exact h
  ·exact absurd h h2
  ·exact absurd h (List.not_lt.2 h1)
 ·rw [hp.mem_iff,hm,mem_rise]
theorem rising_nodup {α:Type} [Line α] {l:List α}(h:Rising l):l.Nodup:=by
 refine List.Pairwise.imp (fun {a b} hab=>?_) h
 rintro rfl
 exact irrefl _ hab
end Go.Ix
namespace Go.Ext
open Go.Ix
structure Fi where
 log:Bool
 size:Nat
 sum:Int
 secs:List Nat
deriving DecidableEq
abbrev Fs:=List (Txt×Fi)
def look:Fs→Txt→Option Fi
 | [],_=>none
 | p :: l,s=>if p.1=s then some p.2 else look l s
def keys (l:Fs):List Txt:=l.map (·.1)
def drop (l:Fs) (s:Txt):Fs:=l.filter fun p=>decide (p.1≠s)
theorem look_mem {s:Txt}{f:Fi}:∀{l:Fs},look l s=some f→(s,f)∈l
 | [],h=>by cases h
 | p :: l,h=>by
  unfold look at h
  split at h
  ·rename_i e
   cases h
   subst e
   exact List.mem_cons_self
  ·exact List.mem_cons_of_mem _ (look_mem h)
theorem look_none {s:Txt}:∀{l:Fs},look l s=none↔s∉keys l
 | []=>by simp [look,keys]
 | p :: l=>by
  unfold look
  split
  ·rename_i e
   simp [keys,e]
  ·rename_i e
   rw [look_none]
   simp [keys,Ne.symm e]
theorem mem_look {s:Txt}{f:Fi}:∀{l:Fs},(keys l).Nodup→(s,f)∈l→look l s=some f
 | [],_,h=>by cases h
 | p :: l,hn,h=>by
  unfold look
  simp only [keys,List.map_cons,List.nodup_cons] at hn
  rcases List.mem_cons.1 h with rfl | h
  ·simp
  ·have hne:p.1≠s:=fun e=>hn.1 (by rw [e];exact List.mem_map.2 ⟨_,h,rfl⟩)
   rw [if_neg hne]
   exact mem_look hn.2 h
theorem mem_keys {s:Txt}{f:Fi}{l:Fs}(h:(s,f)∈l):s∈keys l:=List.mem_map.2 ⟨_,h,rfl⟩
theorem look_drop {s x:Txt}:∀{l:Fs},look (drop l s) x=if x=s then none else look l x
 | []=>by simp [drop,look]
 | p :: l=>by
  have ih:=look_drop (s:=s) (x:=x) (l:=l)
  unfold drop at ih ⊢
  rw [List.filter_cons]
  by_cases hp:p.1=s
  ·simp only [hp,ne_eq,not_true,decide_false,Bool.false_eq_true,if_false,ih]
   by_cases hx:x=s
   ·simp [hx]
   ·simp [look,hx,hp,Ne.symm hx]
  ·simp only [hp,ne_eq,not_false_eq_true,decide_true,if_true]
   unfold look
   rw [ih]
   by_cases hx:x=s
   ·subst hx
    simp [hp]
   ·simp [hx]
theorem keys_drop {l:Fs}{s:Txt}(h:(keys l).Nodup):(keys (drop l s)).Nodup:=by
 unfold keys drop
 exact h.sublist (List.Sublist.map _ List.filter_sublist)
def cntF (l:Fs) (a:Nat):Nat:=(l.map fun p=>p.2.secs.count a).sum
theorem cntF_cons (p:Txt×Fi) (l:Fs) (a:Nat):cntF (p :: l) a=p.2.secs.count a+cntF l a:=by simp [cntF]
theorem cntF_perm {l k:Fs}(h:l.Perm k) (a:Nat):cntF l a=cntF k a:=(h.map _).sum_nat
theorem cntF_split (q:Txt×Fi→Bool) (a:Nat):∀l:Fs,cntF l a=cntF (l.filter q) a+cntF (l.filter fun p=>!q p) a
 | []=>rfl
 | p :: l=>by
  have ih:=cntF_split q a l
  cases hq:q p<;>simp [hq,cntF_cons,ih]<;>omega
theorem cntF_le {a:Nat}:∀{l k:Fs},l.Nodup→(∀p∈l,p∈k)→cntF l a≤cntF k a
 | [],_,_,_=>by simp [cntF]
 | p :: l,k,hn,h=>by
  rw [List.nodup_cons] at hn
  have hp:k.Perm (p :: k.erase p):=List.perm_cons_erase (h p List.mem_cons_self)
  rw [cntF_perm hp,cntF_cons,cntF_cons]
  have:=cntF_le (a:=a) (l:=l) (k:=k.erase p) hn.2 (fun q hq=>by
   have h1:=h q (List.mem_cons_of_mem _ hq)
   exact (List.mem_erase_of_ne (fun e=>hn.1 (by rw [← e];exact hq))).2 h1)
  omega
theorem cntF_zero {a:Nat}{l:Fs}(h:∀p∈l,a∉p.2.secs):cntF l a=0:=by
 induction l with
 | nil=>rfl
 | cons p l ih =>
  rw [cntF_cons,ih fun q hq=>h q (List.mem_cons_of_mem _ hq),List.count_eq_zero_of_not_mem (h p List.mem_cons_self)]
theorem cntF_pos {a:Nat}{l:Fs}{p:Txt×Fi}(hp:p∈l) (ha:a∈p.2.secs):1≤cntF l a:=by
 have h1:=cntF_perm (List.perm_cons_erase hp) a
 rw [cntF_cons] at h1
 have:=List.count_pos_iff.2 ha
 omega
theorem nodup_of_keys {l:Fs}(h:(keys l).Nodup):l.Nodup:=List.Pairwise.of_map _ (fun a b hab e=>hab (by rw [e])) h
theorem cntF_drop {l:Fs}{s:Txt}{f:Fi}(hn:(keys l).Nodup) (h:(s,f)∈l) (a:Nat):cntF l a=f.secs.count a+cntF (drop l s) a:=by
 induction l with
 | nil=>cases h
 | cons p l ih =>
  simp only [keys,List.map_cons,List.nodup_cons] at hn
  rcases List.mem_cons.1 h with rfl | h
  ·have:drop ((s,f) :: l) s=l:=by
    unfold drop
    rw [List.filter_cons]
    simp only [ne_eq,not_true,decide_false,Bool.false_eq_true,if_false]
    rw [List.filter_eq_self]
    intro q hq
    have:q.1≠s:=fun e=>hn.1 (by rw [← e];exact List.mem_map.2 ⟨_,hq,rfl⟩)
    simpa using this
   rw [this,cntF_cons]
  ·have hne:p.1≠s:=fun e=>hn.1 (by rw [e];exact List.mem_map.2 ⟨_,h,rfl⟩)
   have:drop (p :: l) s=p :: drop l s:=by
    unfold drop
    rw [List.filter_cons]
    simp [hne]
   rw [this,cntF_cons,cntF_cons,ih hn.2 h]
   omega
def meets (f g:Fi):Bool:=match f.secs,g.secs with
 | a :: _,b :: _=>a == b
 | _,_=>false
def isNew (now:Fs) (f:Fi):Bool:=now.all fun p=>!meets f p.2
theorem meets_mem {f g:Fi}(h:meets f g=true):∃a,a∈f.secs∧a∈g.secs:=by
 unfold meets at h
 split at h
 ·rename_i a l b k e1 e2
  have:a=b:=by simpa using h
  subst this
  exact⟨a,by rw [e1];exact List.mem_cons_self,by rw [e2];exact List.mem_cons_self⟩
 ·cases h
theorem meets_self {f:Fi}(h:f.secs≠[]):meets f f=true:=by
 unfold meets
 cases hs:f.secs with
 | nil=>exact absurd hs h
 | cons a l=>simp
theorem not_new {now:Fs}{p:Txt×Fi}(hp:p∈now) (h:p.2.secs≠[]):isNew now p.2=false:=by
 unfold isNew
 rw [List.all_eq_false]
 exact⟨p,hp,by simp [meets_self h]⟩
def need (n:Nat):Nat:=(n+255) / 256
def runStep (l:List (Nat×Nat)) (s:Nat):List (Nat×Nat):=match l.getLast? with
 | some p=>if p.1+p.2=s then l.dropLast++[(p.1,p.2+1)] else l++[(s,1)]
 | none=>l++[(s,1)]
def runsOf (l:List Nat):List (Nat×Nat):=l.foldl runStep []
def fileLen (p:Txt×Fi):Nat:=12+p.1.length+4 * (runsOf p.2.secs).length
def dirLen (l:Fs):Nat:=2+(l.map fileLen).sum
def undoSum (u:List (List Nat×Int)) (a:Nat):Int:=(u.map fun p=>p.2 * ((p.1.count a:Nat):Int)).sum
theorem undoSum_snoc (u:List (List Nat×Int)) (p:List Nat×Int) (a:Nat):undoSum (u++[p]) a=undoSum u a+p.2 * ((p.1.count a:Nat):Int):=by
 simp [undoSum]
structure G where
 n:Nat
 dir:List Nat
 now:Fs
 next:Fs
 T:Nat→Int
 undo:List (List Nat×Int)
def G.base (g:G) (a:Nat):Nat:=g.dir.count a+cntF g.now a
def G.news (g:G):Fs:=g.next.filter fun p=>isNew g.now p.2
def FOk (n:Nat) (f:Fi):Prop:=(∀a∈f.secs,2≤a∧a<n)∧f.secs.length=need f.size∧f.size≤1000000
structure Inv (g:G):Prop where
 lo:3≤g.n
 hi:g.n≤62
 kn:(keys g.now).Nodup
 kx:(keys g.next).Nodup
 A:∀a,g.T a=(g.base a:Int)+(cntF g.news a:Int)
 B:∀a,g.T a≤1
 C:∀p∈g.next,isNew g.now p.2=false→p∈g.now
 U:∀a,g.T a+undoSum g.undo a=(g.base a:Int)
 R:∀p∈g.now,FOk g.n p.2
 X:∀p∈g.next,FOk g.n p.2
 D:∀a∈g.dir,2≤a∧a<g.n
 S:g.dir.length=need (dirLen g.now)
def Room (g:G) (l:List Nat):Prop:=l.Nodup∧∀a∈l,(2≤a∧a<g.n)∧g.T a=0
theorem Inv.nonneg {g:G}(h:Inv g) (a:Nat):0≤g.T a:=by have:=h.A a;omega
theorem Inv.stage {g:G}(h:Inv g) {s:Txt}{f:Fi}(hs:s∉keys g.next) (hr:Room g f.secs) (hl:f.secs.length=need f.size) (hz:f.size≤1000000) :
  Inv { g with next:=(s,f) :: g.next,T:=fun a=>g.T a+1 * ((f.secs.count a:Nat):Int),undo:=g.undo++[(f.secs,-1)] }:=by
 have hnew:isNew g.now f=true:=by
  unfold isNew
  rw [List.all_eq_true]
  intro p hp
  cases hm:meets f p.2 with
  | false=>rfl
  | true =>
   exfalso
   obtain⟨a,h1,h2⟩:=meets_mem hm
   have h3:=(hr.2 a h1).2
   have h4:=cntF_pos hp h2
   have h5:=h.A a
   unfold G.base at h5
   omega
 have hnews:G.news { g with next:=(s,f) :: g.next,T:=fun a=>g.T a+1 * ((f.secs.count a:Nat):Int),undo:=g.undo++[(f.secs,-1)] }=(s,f) :: g.news:=by
  unfold G.news
  simp [hnew]
 refine⟨h.lo,h.hi,h.kn,?_,fun a=>?_,fun a=>?_,fun p hp hp2=>?_,fun a=>?_,h.R,fun p hp=>?_,h.D,h.S⟩
 ·simp only [keys,List.map_cons,List.nodup_cons]
  exact⟨hs,h.kx⟩
 ·rw [hnews,cntF_cons]
  have:=h.A a
  show g.T a+_=(g.base a:Int)+_
  rw [this]
  push_cast
  omega
 ·show g.T a+1 * ((f.secs.count a:Nat):Int)≤1
  have h1:=h.B a
  by_cases ha:a∈f.secs
  ·have h2:=(hr.2 a ha).2
   have h3:f.secs.count a≤1:=List.nodup_iff_count.1 hr.1 a
   omega
  ·rw [List.count_eq_zero_of_not_mem ha]
   simpa using h1
 ·rcases List.mem_cons.1 hp with rfl | hp
  ·have h9:isNew g.now f=false:=hp2
   rw [hnew] at h9
   cases h9
  ·exact h.C p hp hp2
 ·show g.T a+1 * ((f.secs.count a:Nat):Int)+undoSum (g.undo++[(f.secs,-1)]) a=(g.base a:Int)
  rw [undoSum_snoc]
  have:=h.U a
  simp only
  omega
 ·rcases List.mem_cons.1 hp with rfl | hp
  ·exact⟨fun a ha=>(hr.2 a ha).1,hl,hz⟩
  ·exact h.X p hp
theorem news_drop {g:G}{s:Txt}:(drop g.next s).filter (fun p=>isNew g.now p.2)=drop g.news s:=by
 unfold drop G.news
 rw [List.filter_filter,List.filter_filter]
 congr 1
 funext p
 exact Bool.and_comm _ _
theorem Inv.gone {g:G}(h:Inv g) {s:Txt}{f:Fi}(hs:look g.next s=some f) (hn:isNew g.now f=true) :
  Inv { g with next:=drop g.next s,T:=fun a=>g.T a+(-1) * ((f.secs.count a:Nat):Int),undo:=g.undo++[(f.secs,1)] }:=by
 have hm:=look_mem hs
 have hmn:(s,f)∈g.news:=List.mem_filter.2 ⟨hm,hn⟩
 have hkn:(keys g.news).Nodup:=h.kx.sublist (List.Sublist.map _ List.filter_sublist)
 have hc:=cntF_drop hkn hmn
 refine⟨h.lo,h.hi,h.kn,keys_drop h.kx,fun a=>?_,fun a=>?_,fun p hp hp2=>h.C p (List.mem_filter.1 hp).1 hp2,fun a=>?_,h.R,fun p hp=>h.X p (List.mem_filter.1 hp).1,h.D,h.S⟩
 ·show g.T a+_=(g.base a:Int)+(cntF ((drop g.next s).filter fun p=>isNew g.now p.2) a:Int)
  rw [news_drop,h.A a]
  have:=hc a
  omega
 ·show g.T a+(-1) * ((f.secs.count a:Nat):Int)≤1
  have h1:=h.B a
  omega
 ·show g.T a+(-1) * ((f.secs.count a:Nat):Int)+undoSum (g.undo++[(f.secs,1)]) a=(g.base a:Int)
  rw [undoSum_snoc]
  have:=h.U a
  simp only
  omega
theorem Inv.hidden {g:G}(h:Inv g) {s:Txt}{f:Fi}(hs:look g.next s=some f) (hn:isNew g.now f=false) :
  Inv { g with next:=drop g.next s }:=by
 have hm:=look_mem hs
 have hd:drop g.news s=g.news:=by
  unfold drop
  rw [List.filter_eq_self]
  intro p hp
  obtain⟨p1,p2⟩:=p
  obtain⟨hp1,hp2⟩:=List.mem_filter.1 hp
  have:p1≠s:=fun e=>by
   subst e
   have:=mem_look h.kx hp1
   rw [hs] at this
   cases this
   rw [hn] at hp2
   cases hp2
  simpa using this
 refine⟨h.lo,h.hi,h.kn,keys_drop h.kx,fun a=>?_,h.B,fun p hp hp2=>h.C p (List.mem_filter.1 hp).1 hp2,h.U,h.R,fun p hp=>h.X p (List.mem_filter.1 hp).1,h.D,h.S⟩
 show g.T a=(g.base a:Int)+(cntF ((drop g.next s).filter fun p=>isNew g.now p.2) a:Int)
 rw [news_drop,hd]
 exact h.A a
theorem Inv.dropped {g:G}(h:Inv g):Inv { g with next:=g.now,T:=fun a=>g.T a+undoSum g.undo a,undo:=[] }:=by
 have hb:∀a,(g.base a:Int)≤1:=fun a=>by have:=h.A a;have:=h.B a;omega
 refine⟨h.lo,h.hi,h.kn,h.kn,fun a=>?_,fun a=>?_,fun p hp _=>hp,fun a=>?_,h.R,h.R,h.D,h.S⟩
 ·show g.T a+undoSum g.undo a=(g.base a:Int)+(cntF (g.now.filter fun p=>isNew g.now p.2) a:Int)
  rw [cntF_zero,h.U a]
  ·simp
  ·intro p hp ha
   obtain⟨hp1,hp2⟩:=List.mem_filter.1 hp
   rw [not_new hp1 (fun e=>by rw [e] at ha;cases ha)] at hp2
   cases hp2
 ·show g.T a+undoSum g.undo a≤1
  rw [h.U a]
  exact hb a
 ·show g.T a+undoSum g.undo a+undoSum [] a=(g.base a:Int)
  rw [h.U a]
  simp [undoSum]
theorem Inv.next_le {g:G}(h:Inv g) (a:Nat):(cntF g.next a:Int)≤g.T a:=by
 have h1:=cntF_split (fun p=>isNew g.now p.2) a g.next
 have h2:cntF (g.next.filter fun p=>!isNew g.now p.2) a≤cntF g.now a:=cntF_le ((nodup_of_keys h.kx).sublist List.filter_sublist) (fun p hp=>by
  obtain⟨hp1,hp2⟩:=List.mem_filter.1 hp
  exact h.C p hp1 (by simpa using hp2))
 have h3:=h.A a
 unfold G.base at h3
 unfold G.news at h3
 omega
theorem Inv.made {g:G}(h:Inv g) {l:List Nat}(hr:Room g l) (hl:l.length=need (dirLen g.next)) :
  Inv { g with dir:=l,now:=g.next,next:=g.next,T:=fun a=>((l.count a:Nat):Int)+((cntF g.next a:Nat):Int),undo:=[] }:=by
 refine⟨h.lo,h.hi,h.kx,h.kx,fun a=>?_,fun a=>?_,fun p hp _=>hp,fun a=>?_,h.X,h.X,fun a ha=>(hr.2 a ha).1,hl⟩
 ·show ((l.count a:Nat):Int)+(cntF g.next a:Nat)=((l.count a+cntF g.next a:Nat):Int)+(cntF (g.next.filter fun p=>isNew g.next p.2) a:Int)
  rw [cntF_zero (l:=g.next.filter _)]
  ·push_cast
   simp
  ·intro p hp ha
   obtain⟨hp1,hp2⟩:=List.mem_filter.1 hp
   rw [not_new hp1 (fun e=>by rw [e] at ha;cases ha)] at hp2
   cases hp2
 ·show ((l.count a:Nat):Int)+(cntF g.next a:Nat)≤1
  have h1:=h.next_le a
  have h2:=h.B a
  by_cases ha:a∈l
  ·have h3:=(hr.2 a ha).2
   have h4:l.count a≤1:=List.nodup_iff_count.1 hr.1 a
   omega
  ·rw [List.count_eq_zero_of_not_mem ha]
   omega
 ·show ((l.count a:Nat):Int)+(cntF g.next a:Nat)+undoSum [] a=((l.count a+cntF g.next a:Nat):Int)
  simp [undoSum]
theorem inv_new {n:Nat}(h3:3≤n) (h62:n≤62):Inv { n:=n,dir:=[2],now:=[],next:=[],T:=fun a=>(([2].count a:Nat):Int)+((cntF [] a:Nat):Int),undo:=[] }:=by
 refine⟨h3,h62,List.nodup_nil,List.nodup_nil,fun a=>?_,fun a=>?_,fun p hp=>(by cases hp),fun a=>?_,fun p hp=>(by cases hp),fun p hp=>(by cases hp),fun a ha=>?_,(show [2].length=need (dirLen []) by decide)⟩
 ·simp [G.base,G.news,cntF]
 ·have h1:[2].count a≤1:=List.nodup_iff_count.1 (by simp) a
  show (([2].count a:Nat):Int)+(cntF [] a:Nat)≤1
  simp only [cntF,List.map_nil,List.sum_nil]
  omega
 ·simp [G.base,undoSum,cntF]
 ·have:a=2:=by simpa using ha
  subst this
  exact⟨Nat.le_refl _,h3⟩
def zeros (T:Nat→Int):Nat→List Nat
 | 0=>[]
 | k+1=>zeros T k++if 2≤k∧T k=0 then [k] else []
def freeTo (T:Nat→Int):Nat→Nat
 | 0=>0
 | k+1=>freeTo T k+if 2≤k∧T k=0 then 1 else 0
theorem mem_zeros {T:Nat→Int}{a:Nat}:∀{k:Nat},a∈zeros T k↔(2≤a∧a<k)∧T a=0
 | 0=>by simp [zeros]
 | k+1=>by
  unfold zeros
  rw [List.mem_append,mem_zeros]
  by_cases hk:2≤k∧T k=0
  ·rw [if_pos hk,List.mem_singleton]
   constructor
   ·rintro (⟨⟨h1,h2⟩,h3⟩ | rfl)
    ·exact⟨⟨h1,by omega⟩,h3⟩
    ·exact⟨⟨hk.1,by omega⟩,hk.2⟩
   ·rintro⟨⟨h1,h2⟩,h3⟩
    rcases Nat.lt_or_ge a k with h | h
    ·exact .inl ⟨⟨h1,h⟩,h3⟩
    ·exact .inr (by omega)
  ·rw [if_neg hk]
   constructor
   ·rintro (⟨⟨h1,h2⟩,h3⟩ | h)
    ·exact⟨⟨h1,by omega⟩,h3⟩
    ·cases h
   ·rintro⟨⟨h1,h2⟩,h3⟩
    refine .inl ⟨⟨h1,?_⟩,h3⟩
    rcases Nat.lt_or_ge a k with h | h
    ·exact h
    ·obtain rfl:a=k:=by omega
     exact absurd ⟨h1,h3⟩ hk
theorem nodup_zeros (T:Nat→Int):∀k,(zeros T k).Nodup
 | 0=>List.nodup_nil
 | k+1=>by
  unfold zeros
  rw [List.nodup_append]
  refine⟨nodup_zeros T k,by split<;>simp,?_⟩
  intro a ha b hb e
  subst e
  have h1:=(mem_zeros.1 ha).1.2
  split at hb
  ·simp at hb
   omega
  ·cases hb
theorem room_zeros {g:G}{k:Nat}(hk:k≤g.n):Room g (zeros g.T k) :=
 ⟨nodup_zeros _ _,fun a ha=>by
  obtain⟨⟨h1,h2⟩,h3⟩:=mem_zeros.1 ha
  exact⟨⟨h1,by omega⟩,h3⟩⟩
theorem zeros_len (T:Nat→Int):∀k,(zeros T k).length≤k
 | 0=>Nat.le_refl _
 | k+1=>by
  unfold zeros
  rw [List.length_append]
  have:=zeros_len T k
  split<;>simp<;>omega
def tot (f:Nat→Nat):Nat→Nat
 | 0=>0
 | k+1=>tot f k+if 2≤k then f k else 0
theorem tot_add (f g:Nat→Nat):∀k,tot (fun a=>f a+g a) k=tot f k+tot g k
 | 0=>rfl
 | k+1=>by
  unfold tot
  rw [tot_add f g k]
  split<;>omega
theorem tot_zero:∀k,tot (fun _=>0) k=0
 | 0=>rfl
 | k+1=>by
  unfold tot
  rw [tot_zero k]
  split<;>rfl
theorem tot_one (x:Nat) (hx:2≤x):∀k,tot (fun a=>if x=a then 1 else 0) k=if x<k then 1 else 0
 | 0=>by simp [tot]
 | k+1=>by
  unfold tot
  rw [tot_one x hx k]
  by_cases h1:x<k
  ·have:x≠k:=by omega
   simp [h1,this]
   omega
  ·by_cases h2:x=k
   ·subst h2
    simp [hx]
   ·have:¬ x<k+1:=by omega
    simp [h1,h2,this]
theorem tot_count {n:Nat}:∀{l:List Nat},(∀a∈l,2≤a∧a<n)→tot (fun a=>l.count a) n=l.length
 | [],_=>by simp [tot_zero]
 | x :: l,h=>by
  have e:(fun a=>(x :: l).count a)=fun a=>l.count a+if x=a then 1 else 0:=by
   funext a
   rw [List.count_cons]
   simp
  rw [e,tot_add,tot_count fun a ha=>h a (List.mem_cons_of_mem _ ha),tot_one x (h x List.mem_cons_self).1,if_pos (h x List.mem_cons_self).2]
  rfl
def sizes (l:Fs):Nat:=(l.map fun p=>need p.2.size).sum
theorem tot_cntF {n:Nat}:∀{l:Fs},(∀p∈l,FOk n p.2)→tot (fun a=>cntF l a) n=sizes l
 | [],_=>by simp [cntF,tot_zero,sizes]
 | p :: l,h=>by
  have e:(fun a=>cntF (p :: l) a)=fun a=>p.2.secs.count a+cntF l a:=by
   funext a
   rw [cntF_cons]
  obtain⟨h1,h2,_⟩:=h p List.mem_cons_self
  rw [e,tot_add,tot_count h1,tot_cntF fun q hq=>h q (List.mem_cons_of_mem _ hq),h2]
  simp [sizes]
theorem free_tot {T:Nat→Int}{f:Nat→Nat}(hT:∀a,T a=(f a:Int)) (h1:∀a,f a≤1):∀k,freeTo T k+tot f k=k-2
 | 0=>rfl
 | k+1=>by
  unfold freeTo tot
  have ih:=free_tot hT h1 k
  have h2:=hT k
  have h3:=h1 k
  by_cases hk:2≤k
  ·by_cases h0:T k=0
   ·rw [if_pos ⟨hk,h0⟩,if_pos hk]
    omega
   ·rw [if_neg (fun h=>h0 h.2),if_pos hk]
    omega
  ·rw [if_neg (fun h=>hk h.1),if_neg hk]
   omega
theorem Inv.free {g:G}(h:Inv g) (hu:∀a,undoSum g.undo a=0):freeTo g.T g.n+sizes g.now+need (dirLen g.now)=g.n-2:=by
 have hT:∀a,g.T a=(g.base a:Int):=fun a=>by have:=h.U a;rw [hu a] at this;omega
 have h1:=free_tot hT (fun a=>by have:=h.B a;have:=hT a;omega) g.n
 have h2:tot g.base g.n=g.dir.length+sizes g.now:=by
  unfold G.base
  rw [tot_add,tot_count h.D,tot_cntF h.R]
 rw [h2,h.S] at h1
 omega
end Go.Ext
namespace Go.Crc
def poly:Nat:=0x82f63b78
def bit (n:Nat):Nat:=n / 2 ^^^ (if n % 2=1 then poly else 0)
def bits:Nat→Nat→Nat
 | 0,n=>n
 | k+1,n=>bits k (bit n)
theorem bits_add (k l n:Nat):bits (k+l) n=bits l (bits k n):=by
 induction k generalizing n with
 | zero=>rw [Nat.zero_add];rfl
 | succ k ih=>rw [Nat.succ_add];show bits (k+l) (bit n)=_;rw [ih];rfl
theorem xor_half (a b:Nat):(a ^^^ b) / 2=a / 2 ^^^ b / 2:=by
 have:=Nat.shiftRight_xor_distrib (a:=a) (b:=b) (i:=1)
 simpa [Nat.shiftRight_eq_div_pow] using this
theorem xor_odd (a b:Nat):(a ^^^ b) % 2=a % 2 ^^^ b % 2:=by
 have:=Nat.xor_mod_two_pow (a:=a) (b:=b) (n:=1)
 simpa using this
theorem bit_xor (a b:Nat):bit (a ^^^ b)=bit a ^^^ bit b:=by
 unfold bit
 rw [xor_half,xor_odd]
 rcases Nat.mod_two_eq_zero_or_one a with ha | ha<;>rcases Nat.mod_two_eq_zero_or_one b with hb | hb<;>rw [ha,hb]
 ·simp
 ·simp [Nat.xor_assoc]
 ·have e:(1 ^^^ 0:Nat)=1:=rfl
  rw [e,if_pos rfl,if_neg (by decide),Nat.xor_zero,Nat.xor_assoc,Nat.xor_assoc,Nat.xor_comm (b / 2)]
 ·rw [show (1 ^^^ 1:Nat)=0 from rfl,if_neg (by decide),if_pos rfl,Nat.xor_zero]
  rw [Nat.xor_assoc,← Nat.xor_assoc poly,Nat.xor_comm poly (b / 2),Nat.xor_assoc (b / 2),Nat.xor_self,Nat.xor_zero]
theorem bits_xor (k a b:Nat):bits k (a ^^^ b)=bits k a ^^^ bits k b:=by
 induction k generalizing a b with
 | zero=>rfl
 | succ k ih=>show bits k (bit (a ^^^ b))=_;rw [bit_xor,ih];rfl
theorem bit_even (m:Nat):bit (2 * m)=m:=by
 unfold bit
 rw [Nat.mul_mod_right,if_neg (by decide),Nat.xor_zero,Nat.mul_div_cancel_left _ (by decide)]
theorem bits_four (m:Nat):bits 4 (16 * m)=m:=by
 show bit (bit (bit (bit (16 * m))))=m
 rw [show 16 * m=2 * (2 * (2 * (2 * m))) by omega,bit_even,bit_even,bit_even,bit_even]
theorem split16 (n:Nat):n=(16 * (n / 16)) ^^^ (n % 16):=by
 have h:2 ^ 4 * (n / 16)+n % 16=n:=Nat.div_add_mod n 16
 have h2:=Nat.two_pow_add_eq_or_of_lt (i:=4) (b:=n % 16) (by omega) (n / 16)
 rw [h] at h2
 refine Nat.eq_of_testBit_eq fun j=>?_
 have h3:Nat.testBit n j=Nat.testBit (2 ^ 4 * (n / 16) ||| n % 16) j:=by rw [← h2]
 rw [h3,Nat.testBit_xor,Nat.testBit_or,show (16:Nat)=2 ^ 4 from rfl,Nat.testBit_two_pow_mul,Nat.testBit_mod_two_pow]
 by_cases hj:j<4
 ·simp [hj,show ¬ 4≤j by omega]
 ·simp [hj]
theorem half_step (n:Nat):bits 4 n=n / 16 ^^^ bits 4 (n % 16):=by
 conv=>lhs;rw [split16 n]
 rw [bits_xor,bits_four]
end Go.Crc
namespace Go.Crc
def feed (d:Nat) (l:List Nat):Nat:=l.foldl (fun d x=>bits 8 (d ^^^ x)) d
def val:List Nat→Nat
 | []=>0
 | x :: l=>x ^^^ (256 * val l)
theorem bit_lt {n:Nat}(h:n<2 ^ 32):bit n<2 ^ 32:=by
 unfold bit
 refine Nat.xor_lt_two_pow (by omega) ?_
 split<;>decide
end Go.Crc
namespace Go.Ix
open Go
theorem bits_xor_u32 (a b:Nat) (ha:a<4294967296) (hb:b<4294967296):bits .xor .u32 (a:Int) (b:Int)=((a ^^^ b:Nat):Int):=by
 have hx:a ^^^ b<2 ^ 32:=Nat.xor_lt_two_pow (by omega) (by omega)
 have h1:(BitVec.ofInt 32 (a:Int)).toNat=a:=by
  rw [BitVec.ofInt_natCast,BitVec.toNat_ofNat]
  exact Nat.mod_eq_of_lt (by omega)
 have h2:(BitVec.ofInt 32 (b:Int)).toNat=b:=by
  rw [BitVec.ofInt_natCast,BitVec.toNat_ofNat]
  exact Nat.mod_eq_of_lt (by omega)
 show IntKind.u32.wrap ((BitVec.ofInt 32 (a:Int) ^^^ BitVec.ofInt 32 (b:Int)).toNat:Int)=_
 rw [BitVec.toNat_xor,h1,h2,IntKind.wrap_u32]
 omega
theorem wraps_u32 (n:Int) (h₀:0≤n) (h₁:n<2 ^ 32):IntKind.u32.wrap n=n:=by rw [IntKind.wrap_u32];omega
theorem bits_and_u32 (a b:Nat) (ha:a<4294967296) (hb:b<4294967296):bits .and .u32 (a:Int) (b:Int)=((a &&& b:Nat):Int) :=
 (bits_nat .u32 32 (by decide) wraps_u32 a b (by simpa using ha) (by simpa using hb)).1
theorem and15 (a:Nat):a &&& 15=a % 16:=Nat.and_two_pow_sub_one_eq_mod a 4
def crc (l:List Nat):Nat:=4294967295 ^^^ Crc.feed 4294967295 l
theorem not_u32 (a:Nat) (ha:a<4294967296):bits .xor .u32 IntKind.u32.max (a:Int)=((4294967295 ^^^ a:Nat):Int):=bits_xor_u32 4294967295 a (by decide) ha
theorem feed_snoc (d:Nat) (l:List Nat) (x:Nat):Crc.feed d (l++[x])=Crc.bits 8 (Crc.feed d l ^^^ x):=by
 unfold Crc.feed
 rw [List.foldl_append]
 rfl
theorem bits_lt (k:Nat) {n:Nat}(h:n<2 ^ 32):Crc.bits k n<2 ^ 32:=by
 induction k generalizing n with
 | zero=>exact h
 | succ k ih=>exact ih (Crc.bit_lt h)
theorem feed_lt {d:Nat}(l:List Nat) (hd:d<2 ^ 32) (hl:∀x∈l,x<256):Crc.feed d l<2 ^ 32:=by
 induction l generalizing d with
 | nil=>exact hd
 | cons x l ih =>
  have hx:=hl x (by simp)
  exact ih (bits_lt 8 (Nat.xor_lt_two_pow hd (by omega))) fun y hy=>hl y (by simp [hy])
end Go.Ix
namespace Go.Ix
def low:Nat→Nat→List Nat
 | 0,_=>[]
 | k+1,n=>n % 256 :: low k (n / 256)
def back:List Nat→Nat
 | []=>0
 | b :: l=>b+256 * back l
theorem low_len:∀(k n:Nat),(low k n).length=k
 | 0,_=>rfl
 | k+1,n=>by simp [low,low_len k]
theorem low_lt:∀(k n:Nat),∀b∈low k n,b<256
 | 0,_,b,h=>by simp [low] at h
 | k+1,n,b,h=>by
  rcases List.mem_cons.1 h with rfl | h
  ·exact Nat.mod_lt _ (by decide)
  ·exact low_lt k _ b h
theorem back_low:∀(k n:Nat),back (low k n)=n % 256 ^ k
 | 0,n=>by simp [low,back,Nat.mod_one]
 | k+1,n=>by
  show n % 256+256 * back (low k (n / 256))=_
  rw [back_low k,Nat.pow_succ,Nat.mul_comm (256 ^ k) 256,Nat.mod_mul]
theorem back_lt:∀(l:List Nat),(∀b∈l,b<256)→back l<256 ^ l.length
 | [],_=>by simp [back]
 | b :: l,h=>by
  have h1:=h b (by simp)
  have h2:=back_lt l fun x hx=>h x (by simp [hx])
  show b+256 * back l<256 ^ (l.length+1)
  rw [Nat.pow_succ]
  omega
end Go.Ix
