/- Contracts over this program. Their conditions: the slices read as the lists that are named, and lie within the sizes that are named. -/
import Derived.Test.YtndjmffnlcilbaaGreatDoorYe
import Derived.Test.YtndjmffnlcilbaaGreatDoorYs
import Derived.Test.YtndjmffnlcilbaaGreatDoorYy
import Derived.Test.YtndjmffnlcilbaaGreatDoorZa
set_option linter.unusedSimpArgs false
set_option linter.unusedVariables false
set_option linter.deprecated false
set_option linter.unnecessarySimpa false
namespace Go.Proofs.YtndjmffnlcilbaaGreatDoor
open Go Go.RowKit Go.Ix Go.Ext Go.Maps
def DnewEnd (w:World) (B n:Nat) (e:Ending) (w':World):Prop :=
 ∃db sm:Nat,e=.returned (.tuple #[.pointer (some ⟨db,0,none⟩),.int .u16 0])∧Below w.heap.size w w'∧∃K:Dk,DK w' B db sm n K∧K.calm∧K.cac=[]
theorem rep_at (N:Nat) (v:Value) (hN:0<N) (i:Nat):(Array.replicate N v)[i % (Array.replicate N v).size]! = v:=by
 have hlt:i % (Array.replicate N v).size<(Array.replicate N v).size:=Nat.mod_lt _ (by simpa using hN)
 rw [getElem!_pos (Array.replicate N v) _ hlt,Array.getElem_replicate]
theorem octs_rep (N:Nat):octs (List.replicate N 0)=List.replicate N (Value.int .u8 0):=by
 unfold octs
 rw [List.map_replicate]
 rfl
theorem made_rep (N:Nat) (hN:0<N) (n:Nat):(madeCells (Array.replicate N (Value.int .u8 0)) (n * N)).toList=secCells (List.replicate n (List.replicate N 0)):=by
 have h1:(madeCells (Array.replicate N (Value.int .u8 0)) (n * N)).toList=List.replicate (n * N) (Value.int .u8 0):=by
  unfold madeCells
  rw [Array.toList_map,Array.toList_range]
  have:(fun x=>(Array.replicate N (Value.int .u8 0))[x % (Array.replicate N (Value.int .u8 0)).size]!)=fun _=>Value.int .u8 0:=funext (rep_at N _ hN)
  rw [this,List.map_const',List.length_range]
 rw [h1]
 unfold secCells
 induction n with
 | zero=>simp
 | succ n ih =>
  rw [List.replicate_succ,List.flatMap_cons,← ih ?_,Nat.succ_mul,Nat.add_comm,← List.replicate_append_replicate,octs_rep]
  unfold madeCells
  rw [Array.toList_map,Array.toList_range]
  have:(fun x=>(Array.replicate N (Value.int .u8 0))[x % (Array.replicate N (Value.int .u8 0)).size]!)=fun _=>Value.int .u8 0:=funext (rep_at N _ hN)
  rw [this,List.map_const',List.length_range]
theorem made_sectors (n:Nat):(madeCells (Value.agg sec0).cells (n * 256)).toList=secCells (List.replicate n (List.replicate 256 0)):=made_rep 256 (by decide) n
set_option maxRecDepth 20000 in
set_option maxHeartbeats 2000000 in
theorem dnew_any {w:World}{B n:Nat}(h1:1≤n) (hn:n≤16384) (hB:B≤w.heap.size) :
  Calls Tryz.prog 6 #[.int .i64 (n:Nat)] w (DnewEnd w B n):=by
 obtain⟨i0,hi0,hz0,hy0,hx0⟩:=info_parts Tryz.info112
 have hmm:=@run_makeMap Tryz.prog
 have hd1:decide ((n:Int)<1)=false:=by simp;omega
 have hd2:decide ((16384:Int)<(n:Int))=false:=by simp;omega
 go_enter Tryz.func6,Tryz.ntmps6
 go_upto_region 3 with fail
 go_wp2_with (at_make;refine wpList_make_full _ rfl _ _ 57 rfl B 112 i0 (.agg sec0) 256 Tryz.underlying57 hi0 hz0 hy0 .i64 .i64 n n n rfl rfl rfl rfl (by rw [hx0];omega) (by unfold maxLen;omega) hB ?_;intro w1 hown1 hgrow1;have Hown1:=Lib.hid hown1;have Hg1:=Lib.hid hgrow1;clear hown1 hgrow1)
 refine bodyPost_ret (results_tmp2 rfl _ _ _) rfl ?_
 obtain⟨X,hX⟩:∃X:World,X=w1.alloc (.map #[] 0):=⟨_,rfl⟩
 rw [← hX]
 obtain⟨Z,hZ⟩:∃Z:World,Z=X.alloc (.cells #[.slice (some ⟨w.heap.size,0,none⟩) n n,.slice none 0 0,.map (some w1.heap.size),.bool false,.int .i64 (-1),.int .i64 0,.int .i64 0,.int .i64 0] 61):=⟨_,rfl⟩
 have hs1:=Hg1.out.size
 have hXs:X.heap.size=w1.heap.size+1:=by rw [hX];simp
 have ho1:Olds w1 Z:=by rw [hZ,hX];exact (Olds.alloc _ _).trans (Olds.alloc _ _)
 have hbZ:Below w.heap.size w Z:=by
  rw [hZ,hX]
  exact (((Below.refl _ _).grown Hg1.out (Nat.le_refl _) (by simp)).alloc (by omega) _).alloc (by simp;omega) _
 have hZc:Z.heap[X.heap.size]?=some (.cells #[.slice (some ⟨w.heap.size,0,none⟩) n n,.slice none 0 0,.map (some w1.heap.size),.bool false,.int .i64 (-1),.int .i64 0,.int .i64 0,.int .i64 0] 61 (0,0)):=by rw [hZ];exact heap_alloc_new _ _
 have hdi:DnewEnd w B n (.returned (.tuple #[.pointer (some ⟨X.heap.size,0,none⟩),.int .u16 0])) Z:=by
  have hz:(madeCells (Value.agg sec0).cells (n * 256)).toList=secCells (List.replicate n (List.replicate 256 0)):=made_sectors n
  have hm:X.ownsMap Tryz.prog 3 RV w1.heap.size 0 (.map []):=by rw [hX];exact World.ownsMap_made w1 _ _ _
  have h1':=Hown1.out
  rw [hz] at h1'
  refine⟨X.heap.size,w1.heap.size,rfl,hbZ,{ las:=List.replicate n (List.replicate 256 0),cac:=[],dark:=false,trip:=-1 },⟨by omega,by omega,⟨_,_,0,0,0,0,[],rfl,rfl,hZc,ownsRow_olds h1' ho1,World.ownsRow_nil _ _ _ _⟩,⟨.map [],?_,fun a _=>⟨fun _=>by simp [has],fun k hk=>(by cases hk)⟩⟩,⟨by simp,fun b hb=>?_,fun p hp=>(by cases hp),(by decide:(-1:Int)≤ -1∧(-1:Int)<9223372036854775808)⟩⟩,⟨rfl,rfl⟩,rfl⟩
  ·rw [hZ]
   exact hm.alloc _
  ·rw [(List.mem_replicate.1 hb).2]
   exact⟨by simp,fun x hx=>by have:=(List.mem_replicate.1 hx).2;omega⟩
 rw [hZ,hXs] at hdi
 exact hdi
end Go.Proofs.YtndjmffnlcilbaaGreatDoor
namespace Go.Proofs.YtndjmffnlcilbaaGreatDoor
open Go Go.RowKit Go.Ix Go.Ext Go.Maps
structure OpIn where
 kind:Nat
 name:Txt
 dest:Txt
 da:Option Addr
 dn:Nat
 dc:Nat
 n:Int
 ka:Option Addr
 kn:Nat
 kc:Nat
def opCells (o:OpIn):List Value:=[.int .u8 (o.kind:Nat),encStr o.name,encStr o.dest,.slice o.da o.dn o.dc,.int .i64 o.n,.slice o.ka o.kn o.kc]
theorem opCells_len (o:OpIn):(opCells o).length=6:=rfl
def RowOp (w:World) (o:Option Addr) (l:List OpIn):Prop:=l≠[]→∃b off,o=some ⟨b,off,none⟩∧CellsAt w b off (l.flatMap opCells)
theorem RowOp.olds {w W:World}{o:Option Addr}{l:List OpIn}(h:RowOp w o l) (ho:Olds w W):RowOp W o l:=fun hne=>by
 obtain⟨b,off,e,hc⟩:=h hne
 exact⟨b,off,e,hc.olds ho⟩
theorem RowOp.below {B:Nat}{w W:World}{o:Option Addr}{l:List OpIn}(h:RowOp w o l) (hb:Below B w W) (hB:w.heap.size≤B):RowOp W o l:=h.olds (Olds.of_below (hb.mono hB))
theorem RowOp.at {w:World}{o:Option Addr}{l:List OpIn}(h:RowOp w o l) {k:Nat}{x:OpIn}(hk:l[k]?=some x):∃b off,o=some ⟨b,off,none⟩∧
  w.cell? ⟨b,off+k * 6,none⟩=some (.int .u8 (x.kind:Nat))∧w.cell? ⟨b,off+k * 6+1,none⟩=some (encStr x.name)∧w.cell? ⟨b,off+k * 6+2,none⟩=some (encStr x.dest)∧w.cell? ⟨b,off+k * 6+3,none⟩=some (.slice x.da x.dn x.dc)∧w.cell? ⟨b,off+k * 6+4,none⟩=some (.int .i64 x.n)∧w.cell? ⟨b,off+k * 6+5,none⟩=some (.slice x.ka x.kn x.kc):=by
 have hne:l≠[]:=fun e=>by rw [e] at hk;simp at hk
 obtain⟨b,off,rfl,hc⟩:=h hne
 have at':=fun (i:Nat) (v:Value) (hv:(opCells x)[i]?=some v)=>hc.elem opCells_len hk hv
 exact⟨b,off,rfl,by have:=at' 0 _ rfl;simpa using this,at' 1 _ rfl,at' 2 _ rfl,at' 3 _ rfl,at' 4 _ rfl,at' 5 _ rfl⟩
def wtO (o:OpIn):Nat:=o.dn+o.kn+o.name.length+o.dest.length
def wtOs (l:List OpIn):Nat:=(l.map wtO).sum
theorem wtOs_take {l:List OpIn}{k:Nat}{x:OpIn}(h:l[k]?=some x):wtOs (l.take (k+1))=wtOs (l.take k)+wtO x:=by
 unfold wtOs
 rw [List.take_add_one,h,List.map_append,List.sum_append]
 simp
def VastO (l:List OpIn):Prop:=l.length≤140737488355328∧∀x∈l,x.dn≤140737488355328∧x.kn≤140737488355328∧x.name.length≤140737488355328∧x.dest.length≤140737488355328
def MuchSays (x:Prop) (e:Ending):Prop:=e=.returned (.bool true)∨(e=.returned (.bool false)∧x)
set_option maxRecDepth 20000 in
set_option maxHeartbeats 2000000 in
theorem much_any (o:Option Addr) (n c:Nat) (l:List OpIn) (w:World) (hl:l.length=n) (hv:VastO l) (hc:RowOp w o l):Calls Tryz.prog 5 #[.slice o n c] w fun e w'=>MuchSays (wtOs l+n≤400000∧n≤200) e∧∃q,w'=w.drewN q:=by
 have Hc:=Lib.hid hc
 have Hv:=Lib.hid hv
 have Hl:=Lib.hid hl
 have hn:=hv.1
 rw [hl] at hn
 clear hc hv hl
 go_enter Tryz.func5,Tryz.ntmps5
 go_wp2_with fail
 go_loopw [3,4] (fun nv iv wr=>∃k q t:Nat,k≤n∧iv=.int .i64 k∧nv=.int .i64 t∧t≤600000000000000∧(400000<t∨t=n+wtOs (l.take k))∧wr=w.drewN q) (fun _ iv _=>n-(intOf iv).toNat)
 case atStart=>exact⟨0,0,n,Nat.zero_le _,rfl,rfl,by omega,.inr (by rw [List.take_zero];rfl),rfl⟩
 case round =>
  obtain⟨k,q,t,hk,rfl,rfl,ht6,ht,rfl⟩:=hrel
  have Ht:=Lib.hid ht
  clear ht
  by_cases hlt:k<n
  ·by_cases h4:t≤400000
   ·obtain⟨x,hx⟩:∃x,l[k]?=some x:=⟨_,List.getElem?_eq_getElem (by rw [Hl.out];exact hlt)⟩
    obtain⟨b,off,rfl,a0,a1,a2,a3,a4,a5⟩:=Hc.out.at hx
    obtain⟨v1,v2,v3,v4⟩:=Hv.out.2 _ (List.mem_of_getElem? hx)
    have htk:t=n+wtOs (l.take k):=by rcases Ht.out with h | h<;>omega
    have Hnx:Hid (n+wtOs (l.take (k+1))=t+(x.dn+x.kn+x.name.length+x.dest.length)):=Lib.hid (by
     rw [wtOs_take hx]
     unfold wtO
     omega)
    have Hx:=Lib.hid hx
    clear htk hx a0 a4
    generalize hd:x.dn=d at *
    generalize hkn:x.kn=kn at *
    have hw1:IntKind.i64.wrap ((d:Int)+(kn:Int))=(d:Int)+(kn:Int):=by rw [IntKind.wrap_i64];omega
    have hw2:IntKind.i64.wrap ((d:Int)+(kn:Int)+(x.name.length:Int))=(d:Int)+(kn:Int)+(x.name.length:Int):=by rw [IntKind.wrap_i64];omega
    have hw3:IntKind.i64.wrap ((d:Int)+(kn:Int)+(x.name.length:Int)+(x.dest.length:Int))=(d:Int)+(kn:Int)+(x.name.length:Int)+(x.dest.length:Int):=by rw [IntKind.wrap_i64];omega
    have hw4:IntKind.i64.wrap ((t:Int)+((d:Int)+(kn:Int)+(x.name.length:Int)+(x.dest.length:Int)))=(t:Int)+((d:Int)+(kn:Int)+(x.name.length:Int)+(x.dest.length:Int)):=by rw [IntKind.wrap_i64];omega
    go_upto_region 5 with fail
    go_region_held (fun W=>W.cell? ⟨b,off+k * 6+1,none⟩=some (encStr x.name)∧W.cell? ⟨b,off+k * 6+2,none⟩=some (encStr x.dest)∧W.cell? ⟨b,off+k * 6+3,none⟩=some (.slice x.da d x.dc)∧W.cell? ⟨b,off+k * 6+5,none⟩=some (.slice x.ka kn x.kc)) (exact⟨a1,a2,a3,a5⟩) (fail)
    go_wp2_with fail
    go_roundw
    case rel=>exact⟨k+1,q+1,t+(d+kn+x.name.length+x.dest.length),by omega,by go_num,by go_num,by omega,.inr Hnx.out.symm,rfl⟩
    case measure=>simp [intOf];omega
   ·go_wp2_with fail
    go_ret
    exact⟨.inl rfl,q,rfl⟩
  ·have Hfin:Hid (400000<t∨t=n+wtOs l):=Lib.hid (by
    have h9:=Ht.out
    rwa [List.take_of_length_le (l:=l) (by rw [Hl.out];omega)] at h9)
   by_cases h4:t≤400000
   ·by_cases h6:n≤200
    ·go_wp2_with fail
     go_ret
     exact⟨.inr ⟨ret_bool (a:=decide (400000<(t:Int)) || decide (200<(n:Int))) (by simp;omega),by rcases Hfin.out with h | h<;>omega,h6⟩,q,rfl⟩
    ·go_wp2_with fail
     go_ret
     exact⟨.inl (ret_bool (a:=decide (400000<(t:Int)) || decide (200<(n:Int))) (by simp;omega)),q,rfl⟩
   ·go_wp2_with fail
    go_ret
    exact⟨.inl rfl,q,rfl⟩
end Go.Proofs.YtndjmffnlcilbaaGreatDoor
namespace Go.Proofs.YtndjmffnlcilbaaGreatDoor
open Go Go.RowKit Go.Ix Go.Ext Go.Maps
theorem lf_wo (l:List LE) (s:Txt):lf (wo l s)=withoutF (lf l) s:=by
 unfold lf wo withoutF
 rw [List.filter_map]
 rfl
theorem lf_wi (l:List LE) (e:LE):lf (wi l e)=withF (lf l) e.name e.ds:=by
 unfold wi withF
 have h:=lf_wo l e.name
 unfold withoutF at h
 rw [← h]
 unfold lf
 rw [List.map_append]
 rfl
theorem wo_len (l:List LE) (s:Txt):(wo l s).length≤l.length:=List.length_filter_le _ _
theorem wi_len (l:List LE) (e:LE):(wi l e).length≤l.length+1:=by
 unfold wi
 rw [List.length_append]
 have:=wo_len l e.name
 simp
 omega
structure LRow (w:World) (B i:Nat) (v:Value) (l:List LE):Prop where
 row:RowL w B v l
 ok:∀e∈l,LEok w B e
 len:l.length≤i
section
variable {w W:World}{B i:Nat}{v:Value}{l:List LE}
theorem LRow.nil (w:World) (B i:Nat):LRow w B i (.slice none 0 0) []:=⟨RowL.nil w B,(fun e h=>by cases h),Nat.zero_le _⟩
theorem LRow.kp (h:LRow w B i v l) (hk:Kp B w W):LRow W B i v l:=⟨h.row.kp hk,fun e he=>(h.ok e he).below hk.below,h.len⟩
theorem LRow.mono {i':Nat}(h:LRow w B i v l) (hi:i≤i'):LRow w B i' v l:=⟨h.row,h.ok,Nat.le_trans h.len hi⟩
theorem LRow.wo (h:LRow w B i v l) (hk:Below w.heap.size w W) (hB:B≤w.heap.size) {v':Value}{s:Txt}(hr:RowL W w.heap.size v' (wo l s)):LRow W B i v' (wo l s) :=
 ⟨hr.mono hB,fun e he=>(h.ok e (List.mem_filter.1 he).1).below (hk.mono hB),Nat.le_trans (wo_len l s) h.len⟩
theorem LRow.wi (h:LRow w B i v l) (hk:Below w.heap.size w W) (hB:B≤w.heap.size) {v':Value}{e:LE}(he:LEok w B e) (hr:RowL W w.heap.size v' (wi l e)):LRow W B (i+1) v' (wi l e) :=
 ⟨hr.mono hB,fun x hx=>by
  unfold Go.Proofs.YtndjmffnlcilbaaGreatDoor.wi at hx
  rcases List.mem_append.1 hx with hx | hx
  ·exact (h.ok x (List.mem_filter.1 hx).1).below (hk.mono hB)
  ·rw [List.mem_singleton.1 hx]
   exact he.below (hk.mono hB),by have:=wi_len l e;have:=h.len;omega⟩
end
theorem Kp.of_td {w W:World}{B db sm n:Nat}{t:Dk}(h:DK w B db sm n t) (hf:Fr B TD [sm] w W):Kp B w W:=Kp.of_fr hf (by decide) (fun ty hty b hb cs fr e=>by
 obtain⟨es,c,hk⟩:=h.seen.kind
 rw [List.mem_singleton.1 hb,hk] at e
 cases e)
def Alive (wr:World) (B db sm N k D:Nat) (sv:Value) (ln lx:LF):Prop:=∃sb slot gen g t,sv=.pointer (some ⟨sb,0,none⟩)∧SL wr B db sm sb k D t slot gen g ln lx∧g.n=N
def Gone (wr:World) (B db sm N k:Nat) (ln lu:LF):Prop:=DL wr B db sm N k (k+1) ln lu∧(ln.map (·.1)).Nodup∧(lu.map (·.1)).Nodup
theorem SIx.hg {w:World}{B db sm sb k D tb tc nb xb slot gen:Nat}{t:Dk}{uv dv:Value}{g:G}(h:SIx w B db sm sb k D t tb tc nb xb slot gen uv dv g):gen≤k+1:=h.hgen
section
variable {w W:World}{B db sm N k D k' D':Nat}{sv:Value}{ln lx lu:LF}
theorem DL.mono {m m':Nat}(h:DL w B db sm N k m ln lu) (hk:k≤k') (hm:m≤m'):DL w B db sm N k' m' ln lu:=by
 obtain⟨t,h1,h2,h3⟩:=h
 refine⟨t,h1,by omega,h3.kok,h3.drk,fun keep=>?_⟩
 rcases h3.safe keep with ⟨cur,gen,dir,fs,q1,q2⟩|⟨cur,gen,dir,fs,q1,q2⟩
 ·exact .inl ⟨cur,gen,dir,fs,by omega,q2⟩
 ·exact .inr ⟨cur,gen,dir,fs,by omega,q2⟩
theorem Gone.mono (h:Gone w B db sm N k ln lu) (hk:k≤k'):Gone w B db sm N k' ln lu:=⟨h.1.mono hk (by omega),h.2⟩
theorem Alive.mono (h:Alive w B db sm N k D sv ln lx) (hk:k≤k') (hD:D≤D'):Alive w B db sm N k' D' sv ln lx:=by
 obtain⟨sb,slot,gen,g,t,h1,⟨⟨tb,tc,nb,xb,uv,dv,h2⟩,h3⟩,h4⟩:=h
 exact⟨sb,slot,gen,g,t,h1,⟨⟨tb,tc,nb,xb,uv,dv,h2.mono hk hD⟩,h3⟩,h4⟩
theorem Alive.olds (h:Alive w B db sm N k D sv ln lx) (ho:Olds w W):Alive W B db sm N k D sv ln lx:=by
 obtain⟨sb,slot,gen,g,t,h1,⟨h2,h3⟩,h4⟩:=h
 exact⟨sb,slot,gen,g,t,h1,⟨h2.olds ho,h3⟩,h4⟩
theorem DL.olds {m:Nat}(h:DL w B db sm N k m ln lu) (ho:Olds w W):DL W B db sm N k m ln lu:=by
 obtain⟨t,h1,h2⟩:=h
 exact⟨t,h1.olds ho,h2⟩
theorem Gone.olds (h:Gone w B db sm N k ln lu) (ho:Olds w W):Gone W B db sm N k ln lu:=⟨h.1.olds ho,h.2⟩
theorem Alive.nods (h:Alive w B db sm N k D sv ln lx):(ln.map (·.1)).Nodup∧(lx.map (·.1)).Nodup:=by
 obtain⟨sb,slot,gen,g,t,h1,⟨h2,h3⟩,h4⟩:=h
 exact⟨h3.mN.nod,h3.mX.nod⟩
theorem Alive.dk (h:Alive w B db sm N k D sv ln lx):∃t,DK w B db sm N t:=by
 obtain⟨sb,slot,gen,g,t,h1,⟨⟨tb,tc,nb,xb,uv,dv,h2⟩,h3⟩,rfl⟩:=h
 exact⟨t,h2.di⟩
theorem Alive.trip (h:Alive w B db sm N k D sv ln lx) (m:Int) (hm:m<9223372036854775808) :
  Calls Tryz.prog 8 #[.pointer (some ⟨db,0,none⟩),.int .i64 m] w fun e w'=>(∃v,e=.returned v)∧Kp B w w'∧Alive w' B db sm N k D sv ln lx:=by
 obtain⟨sb,slot,gen,g,t,h1,⟨⟨tb,tc,nb,xb,uv,dv,h2⟩,h3⟩,rfl⟩:=h
 refine (trip_any h2.di m hm).mono fun e w' ⟨a,b,c⟩=>⟨a,Kp.of_td h2.di c,sb,slot,gen,g,t.set m,h1,⟨⟨tb,tc,nb,xb,uv,dv,h2.disk c b ?_⟩,?_⟩,rfl⟩
 ·have e1:(t.set m).cac=t.cac:=by unfold Dk.set;split;rfl;split<;>rfl
  rw [e1]
  exact h2.ht
 ·have e1:(t.set m).cac=t.cac:=by unfold Dk.set;split;rfl;split<;>rfl
  have e2:(t.set m).las=t.las:=by unfold Dk.set;split;rfl;split<;>rfl
  have e3:(t.set m).dark=t.dark:=by unfold Dk.set;split;rfl;split<;>rfl
  exact h3.beside (h3.kok.set m hm) e2 (by rw [e3];exact h3.lit) (by rw [e1];exact h3.pend) (fun q _ a _=>by unfold Dk.view;rw [e1,e2])
theorem Gone.trip (h:Gone w B db sm N k ln lu) (m:Int) (hm:m<9223372036854775808) :
  Calls Tryz.prog 8 #[.pointer (some ⟨db,0,none⟩),.int .i64 m] w fun e w'=>(∃v,e=.returned v)∧Kp B w w'∧Gone w' B db sm N k ln lu:=by
 obtain⟨⟨t,h1,h2,h3⟩,h4⟩:=h
 refine (trip_any h1 m hm).mono fun e w' ⟨a,b,c⟩=>⟨a,Kp.of_td h1 c,⟨t,?_,h2,h3⟩,h4⟩
 have e1:t.set m=t:=by unfold Dk.set;rw [h3.drk];simp
 rwa [e1] at b
def Cutted (wr:World) (B db sm N m:Nat) (l:LF):Prop:=∃t,DK wr B db sm N t∧t.calm∧t.cac=[]∧Ext.Safe isNm N m t.las l
theorem Alive.cut {o:Option Addr}{q c:Nat}{ks:List Bool}(h:Alive w B db sm N k D sv ln lx) (hk:Bools w B o q ks) (hB:B≤w.heap.size) (hk9:k≤1000) :
  Calls Tryz.prog 9 #[.pointer (some ⟨db,0,none⟩),.slice o q c] w fun e w'=>e=.returned (.tuple #[])∧Kp B w w'∧Cutted w' B db sm N (k+1) ln:=by
 obtain⟨sb,slot,gen,g,t,h1,⟨⟨tb,tc,nb,xb,uv,dv,h2⟩,h3⟩,rfl⟩:=h
 have hhi:=h2.inv.hi
 exact (cut_any h2.di hk (by omega) (by have:=h2.ht;omega) hB).mono fun e w' ⟨a,b,c⟩=>⟨a,Kp.of_td h2.di c,_,b,⟨rfl,rfl⟩,rfl,h3.cut h2.hgen _⟩
theorem Gone.cut {o:Option Addr}{q c:Nat}{ks:List Bool}(h:Gone w B db sm N k ln lu) (hk:Bools w B o q ks) (hB:B≤w.heap.size) (hk9:k≤1000) (hN:N≤62) :
  Calls Tryz.prog 9 #[.pointer (some ⟨db,0,none⟩),.slice o q c] w fun e w'=>e=.returned (.tuple #[])∧Kp B w w'∧(Cutted w' B db sm N (k+1) ln∨Cutted w' B db sm N (k+1) lu):=by
 obtain⟨⟨t,h1,h2,h3⟩,h4⟩:=h
 refine (cut_any h1 hk (by omega) (by omega) hB).mono fun e w' ⟨a,b,c⟩=>⟨a,Kp.of_td h1 c,?_⟩
 rcases h3.safe (keepOf ks) with h5 | h5
 ·exact .inl ⟨_,b,⟨rfl,rfl⟩,rfl,h5⟩
 ·exact .inr ⟨_,b,⟨rfl,rfl⟩,rfl,h5⟩
def Opened (wr:World) (B db sm N k D sb:Nat) (l:LF):Prop:=∃slot gen g t,t.calm∧SL wr B db sm sb k D t slot gen g l l∧g.n=N∧g.next=g.now∧t.cac=[]
theorem Cutted.open (hH:HalfOk) {l:LF}(h:Cutted w B db sm N (k+1) l) (hB:B≤w.heap.size) (hG:9≤w.heap.size) (h62:N≤62) (h3:3≤N) (hk:256≤k) (hD:16000≤D) :
  Calls Tryz.prog 10 #[.pointer (some ⟨db,0,none⟩)] w fun e w'=>∃sb,e=.returned (.tuple #[.pointer (some ⟨sb,0,none⟩),.int .u16 0])∧Kp B w w'∧Opened w' B db sm N k D sb l:=by
 obtain⟨t,h1,h2,h4,cur,gen,dir,fs,q1,q2,q3,q4⟩:=h
 refine (open_any hH h1 h2 h4 hB hG h62 h3 q2).mono fun e w' ⟨a,b,r,sb,c1,c2,tb,nb,xb,nm,uv,dv,d1,d2,d3,d4,d5,d6,d7⟩=>?_
 obtain⟨F,d,hh,hp⟩:=q2.here
 rw [c1] at hh
 obtain rfl:=Option.some.inj hh
 have hs:=q3.perm hp.symm
 have hL:=live_opened (K:=t) (F:=F) h1.ok h2.1 h4 q2 q3 q4 hp
 have hdl:dirLen F≤15872:=by
  have h9:=hs.S
  have h10:=sub_len (l:=dir) (k:=List.range N) (List.nodup_append.1 hs.nod).1 (fun a ha=>List.mem_range.2 (hs.two a ha).2)
  rw [List.length_range] at h10
  unfold need at h9
  omega
 have hsm:=h1.seen.lt
 exact⟨sb,c2,Kp.of_td h1 b,cur,gen,opened N dir F,t,h2,⟨⟨tb,N,nb,xb,uv,dv,⟨by omega,d6,(d7 sb).mono (by omega),a,by rw [h4];exact Nat.zero_le _,q2.one,q1,Nat.zero_le _,Nat.le_trans hdl (by omega),Nat.le_trans hdl (by omega),by omega,by omega,hs.inv⟩⟩,hL⟩,rfl,rfl,h4⟩
theorem Opened.alive {sb:Nat}{l:LF}(h:Opened w B db sm N k D sb l):Alive w B db sm N k D (.pointer (some ⟨sb,0,none⟩)) l l:=by
 obtain⟨slot,gen,g,t,_,h1,h2,_⟩:=h
 exact⟨sb,slot,gen,g,t,rfl,h1,h2⟩
theorem Alive.dark (h:Alive w B db sm N k D sv ln lx):Calls Tryz.prog 18 #[.pointer (some ⟨db,0,none⟩)] w fun e w'=>e=.returned (.bool false)∧w'=w:=by
 obtain⟨sb,slot,gen,g,t,h1,⟨⟨tb,tc,nb,xb,uv,dv,h2⟩,h3⟩,rfl⟩:=h
 exact (dark_any h2.di).mono fun e w' ⟨a,b⟩=>⟨by rw [a,h3.lit],b⟩
theorem Gone.dark (h:Gone w B db sm N k ln lu):Calls Tryz.prog 18 #[.pointer (some ⟨db,0,none⟩)] w fun e w'=>e=.returned (.bool true)∧w'=w:=by
 obtain⟨⟨t,h1,h2,h3⟩,h4⟩:=h
 exact (dark_any h1).mono fun e w' ⟨a,b⟩=>⟨by rw [a,h3.drk],b⟩
theorem Alive.reads (hH:HalfOk) {i:Nat}{v:Value}{l:List LE}(h:Alive w B db sm N k D sv (lf l) lx) (hr:LRow w B i v l) (hi:i≤1000) (hG:9≤w.heap.size) (hk:k≤1000) (hD:D≤1000000) :
  Calls Tryz.prog 11 #[sv,v] w fun e w'=>Kp B w w'∧((e=.returned (.bool true)∧Alive w' B db sm N k D sv (lf l) lx)∨(e=.returned (.bool false)∧Gone w' B db sm N k (lf l) (lf l))):=by
 obtain⟨sb,slot,gen,g,t,rfl,⟨h2,h3⟩,rfl⟩:=h
 refine (reads_any hH h2 h3.lit hG hk hD hr.row hr.ok rfl (by have:=hr.len;omega)).mono fun e w' ⟨a,t',b1,b2,_,b4⟩=>⟨a,?_⟩
 obtain⟨tb,tc,nb,xb,uv,dv,h2'⟩:=h2
 have hvw:t'.view=t.view:=by unfold Dk.view;rw [b1,b2]
 rcases b4 with ⟨c1,c2,c3⟩|⟨c1,c2,c3⟩
 ·refine .inl ⟨?_,sb,slot,gen,g,t',rfl,⟨c2,?_⟩,rfl⟩
  ·rw [c3,(h3.reads h3.mN.nod).2 h3.mV]
  ·obtain⟨_,_,_,_,_,_,h5⟩:=c2
   exact h3.beside h5.di.ok b1 c1 (by rw [b2];exact h3.pend) (fun q _ a _=>by rw [hvw])
 ·refine .inr ⟨c3,⟨t',c2,by rw [b2];exact h2'.ht,h3.dies h2'.hgen c2.ok b1 c1 (by rw [b2];exact h3.pend) _⟩,h3.mN.nod,h3.mN.nod⟩
theorem Opened.reads (hH:HalfOk) {i sb:Nat}{v:Value}{l:List LE}{l0:LF}(h:Opened w B db sm N k D sb l0) (hr:LRow w B i v l) (hn:((lf l).map (·.1)).Nodup) (hi:i≤1000) (hG:9≤w.heap.size) (hk:k≤1000) (hD:D≤1000000) :
  Calls Tryz.prog 11 #[.pointer (some ⟨sb,0,none⟩),v] w fun e w'=>∃b:Bool,e=.returned (.bool b)∧Kp B w w'∧Opened w' B db sm N k D sb l0∧(b=true→Opened w' B db sm N k D sb (lf l))∧(lf l=l0→b=true):=by
 obtain⟨slot,gen,g,t,h0,⟨h2,h3⟩,rfl,h4,h5⟩:=h
 refine (reads_any hH h2 h3.lit hG hk hD hr.row hr.ok rfl (by have:=hr.len;omega)).mono fun e w' ⟨a,t',_,_,b3,b4⟩=>?_
 obtain rfl:=b3 h0
 rcases b4 with ⟨c1,c2,c3⟩|⟨c1,_⟩
 ·refine⟨_,c3,a,⟨slot,gen,g,t',h0,⟨c2,h3⟩,rfl,h4,h5⟩,fun hb=>?_,fun he=>?_⟩
  ·have hm:=(h3.reads hn).1 hb
   have hv:t'.view=t'.las:=by unfold Dk.view;rw [h5];rfl
   refine⟨slot,gen,g,t',h0,⟨c2,⟨h3.kok,h3.lit,h3.inv,h3.base,h3.pend,h3.fineN,h3.fineX,h3.runs,h3.fewN,h3.fewX,by rw [← hv];exact hm,by rw [h4];exact hm⟩⟩,rfl,h4,h5⟩
  ·exact (h3.reads hn).2 (by rw [he];exact h3.mV)
 ·rw [h0.1] at c1
  cases c1
theorem Opened.olds {sb:Nat}{l:LF}(h:Opened w B db sm N k D sb l) (ho:Olds w W):Opened W B db sm N k D sb l:=by
 obtain⟨slot,gen,g,t,h0,⟨h2,h3⟩,h4⟩:=h
 exact⟨slot,gen,g,t,h0,⟨h2.olds ho,h3⟩,h4⟩
theorem Alive.put (hH:HalfOk) {s:Txt}{ds:List Nat}{da:Option Addr}{dn dc:Nat}(h:Alive w B db sm N k D sv ln lx) (hG:9≤w.heap.size) (hk:k≤900) (hs:s.length≤1000000) (hd:DataB w B ds da dn dc) (hdn:dn≤400000) :
  Calls Tryz.prog 12 #[sv,encStr s,.slice da dn dc] w fun e w'=>Kp B w w'∧∃c:Nat,e=.returned (.int .u16 c)∧((c=0∧Alive w' B db sm N (k+2) (D+300+s.length) sv ln (withF lx s ds))∨(c≠0∧c≠4∧Alive w' B db sm N (k+2) (D+300+s.length) sv ln lx)∨(c=4∧Gone w' B db sm N (k+2) ln ln)):=by
 obtain⟨sb,slot,gen,g,t,rfl,⟨⟨tb,tc,nb,xb,uv,dv,h2⟩,h3⟩,rfl⟩:=h
 have hgen:=h2.hgen
 refine (put_any hH h2 h3 hG hk hs hd hdn).mono fun e w' ⟨a,c,b,h4⟩=>⟨a,c,b,?_⟩
 rcases h4 with ⟨c1,t',g',c2,c3⟩|⟨c1,c2,c3⟩|⟨c1,c2⟩
 ·exact .inl ⟨c1,sb,slot,gen,g',t',rfl,c2,c3⟩
 ·exact .inr (.inl ⟨c1,c2,sb,slot,gen,g,t,rfl,c3,rfl⟩)
 ·exact .inr (.inr ⟨c1,c2 ln _ (by omega),h3.mN.nod,h3.mN.nod⟩)
theorem Alive.remove {s:Txt}(h:Alive w B db sm N k D sv ln lx) (hk:k≤1000) (hs:s.length≤1000000) :
  Calls Tryz.prog 14 #[sv,encStr s] w fun e w'=>Kp B w w'∧∃c:Nat,e=.returned (.int .u16 c)∧((c=0∧Alive w' B db sm N (k+1) D sv ln (withoutF lx s))∨(c≠0∧c≠4∧Alive w' B db sm N (k+1) D sv ln lx)):=by
 obtain⟨sb,slot,gen,g,t,rfl,⟨⟨tb,tc,nb,xb,uv,dv,h2⟩,h3⟩,rfl⟩:=h
 refine (remove_any h2 h3 hk hs).mono fun e w' ⟨a,c,b,h4⟩=>⟨a,c,b,?_⟩
 rcases h4 with ⟨c1,g',c2,c3⟩|⟨c1,c2,c3⟩
 ·exact .inl ⟨c1,sb,slot,gen,g',t,rfl,c2,c3⟩
 ·exact .inr ⟨c1,c2,sb,slot,gen,g,t,rfl,c3,rfl⟩
theorem Alive.drop (h:Alive w B db sm N k D sv ln lx) (hk:k≤1000) :
  Calls Tryz.prog 16 #[sv] w fun e w'=>e=.returned (.tuple #[])∧Kp B w w'∧Alive w' B db sm N k D sv ln ln:=by
 obtain⟨sb,slot,gen,g,t,rfl,⟨⟨tb,tc,nb,xb,uv,dv,h2⟩,h3⟩,rfl⟩:=h
 refine (drop_any h2 hk).mono fun e w' ⟨a,b,xb',h4⟩=>⟨a,b,sb,slot,gen,_,t,rfl,⟨⟨_,_,_,_,_,_,h4⟩,h3.dropped⟩,rfl⟩
theorem Alive.commit (hH:HalfOk) (h:Alive w B db sm N k D sv ln lx) (hG:9≤w.heap.size) (hk:k≤900) (hD:D≤1000000) :
  Calls Tryz.prog 17 #[sv] w fun e w'=>Kp B w w'∧∃c:Nat,e=.returned (.int .u16 c)∧((c=0∧Alive w' B db sm N (k+1) D sv lx lx)∨(c=5∧Alive w' B db sm N (k+1) D sv ln ln)∨(c=4∧Gone w' B db sm N (k+1) ln lx)):=by
 obtain⟨sb,slot,gen,g,t,rfl,⟨⟨tb,tc,nb,xb,uv,dv,h2⟩,h3⟩,rfl⟩:=h
 have hgen:=h2.hgen
 refine (commit_any hH h2 h3 hG hk hD).mono fun e w' ⟨a,c,b,h4⟩=>⟨a,c,b,?_⟩
 rcases h4 with ⟨c1,t',slot',gen',g',_,c2,c3⟩|⟨c1,g',c2,c3⟩|⟨c1,c2⟩
 ·exact .inl ⟨c1,sb,slot',gen',g',t',rfl,c2,c3⟩
 ·exact .inr (.inl ⟨c1,sb,slot,gen,g',t,rfl,c2,c3⟩)
 ·exact .inr (.inr ⟨c1,c2 _ (by omega),h3.mN.nod,h3.mX.nod⟩)
end
end Go.Proofs.YtndjmffnlcilbaaGreatDoor
