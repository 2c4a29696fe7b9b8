/- Plain laws, no program. No conditions. -/
import Derived.Test.YtejeflddeanccaaGreatDoorT2
import Derived.Test.YtejeflddeanccaaGreatDoorP1
set_option linter.unusedSimpArgs false
set_option linter.unusedVariables false
set_option linter.deprecated false
set_option linter.unnecessarySimpa false
namespace Go.Proofs.YtejeflddeanccaaGreatDoor
open Go Go.RowKit Go.Ix Go.Tm
def tmCells (u:Value×Int×Int):List Value:=[u.1,.int .i64 u.2.1,.int .i64 u.2.2]
def Tm3 (w:World) (b off:Nat) (t:Tomb):Prop :=
 ∃o1 n1 c1,w.cell? ⟨b,off,none⟩=some (.slice o1 n1 c1)∧w.cell? ⟨b,off+1,none⟩=some (.int .i64 t.2.1)∧w.cell? ⟨b,off+2,none⟩=some (.int .i64 t.2.2)∧t.1.length=n1∧Rows2 w o1 t.1∧(o1=none→c1=0)
def RowsT (w:World) (o:Option Addr) (l:List Tomb):Prop:=l≠[]→∃b off,o=some ⟨b,off,none⟩∧∀k t,l[k]?=some t→Tm3 w b (off+k * 3) t
theorem Tm3.olds {w W:World}{b off:Nat}{t:Tomb}(h:Tm3 w b off t) (hb:Olds w W):Tm3 W b off t:=by
 obtain⟨o1,n1,c1,h1,h2,h3,h4,h5,h6⟩:=h
 exact⟨o1,n1,c1,hb.cell h1,hb.cell h2,hb.cell h3,h4,h5.olds hb,h6⟩
theorem RowsT.olds {w W:World}{o:Option Addr}{l:List Tomb}(h:RowsT w o l) (hb:Olds w W):RowsT W o l:=fun hne=>by
 obtain⟨b,off,e,hc⟩:=h hne
 exact⟨b,off,e,fun k x hx=>(hc k x hx).olds hb⟩
theorem RowsT.at {w:World}{o:Option Addr}{l:List Tomb}(h:RowsT w o l) {k:Nat}(hk:k<l.length) :
  ∃b off t1 t2 t3 o1 n1 c1,o=some ⟨b,off,none⟩∧l[k]?=some (t1,t2,t3)∧w.cell? ⟨b,off+k * 3,none⟩=some (.slice o1 n1 c1)∧w.cell? ⟨b,off+k * 3+1,none⟩=some (.int .i64 t2)∧w.cell? ⟨b,off+k * 3+2,none⟩=some (.int .i64 t3)∧t1.length=n1∧Rows2 w o1 t1∧(o1=none→c1=0):=by
 obtain⟨b,off,e,hc⟩:=h (fun e=>by rw [e] at hk;simp at hk)
 have hx:l[k]?=some (l[k].1,l[k].2.1,l[k].2.2):=List.getElem?_eq_getElem hk
 obtain⟨o1,n1,c1,h⟩:=hc k _ hx
 exact⟨b,off,_,_,_,o1,n1,c1,e,hx,h⟩
theorem RowsT.next {w:World}{b off:Nat}{l:List Tomb}(h:RowsT w (some ⟨b,off,none⟩) l) {k:Nat}(hk:k<l.length) :
  ∃t1 t2 t3 o1 n1 c1,l[k]?=some (t1,t2,t3)∧w.cell? ⟨b,off+k * 3,none⟩=some (.slice o1 n1 c1)∧w.cell? ⟨b,off+k * 3+1,none⟩=some (.int .i64 t2)∧w.cell? ⟨b,off+k * 3+2,none⟩=some (.int .i64 t3)∧t1.length=n1∧Rows2 w o1 t1∧(o1=none→c1=0):=by
 obtain⟨b',off',t1,t2,t3,o1,n1,c1,e,h⟩:=h.at hk
 cases e
 exact⟨t1,t2,t3,o1,n1,c1,h⟩
theorem rowsT_of {w:World}{b off:Nat}{us:List (Value×Int×Int)}{l:List Tomb}(hl:us.length=l.length) (hc:CellsAt w b off (us.flatMap tmCells))
  (h:∀(i:Nat) (u:Value×Int×Int) (t:Tomb),us[i]?=some u→l[i]?=some t→u.2=t.2∧∃o c,u.1=.slice o t.1.length c∧(o=none→c=0)∧Rows2 w o t.1):RowsT w (some ⟨b,off,none⟩) l:=fun _=>⟨b,off,rfl,fun k t ht=>by
 have hk:k<us.length:=by rw [hl];exact (List.getElem?_eq_some_iff.1 ht).1
 have hu:us[k]?=some us[k]:=List.getElem?_eq_getElem hk
 obtain⟨e2,o,c,e1,h1,h2⟩:=h k _ t hu ht
 have c0:=CellsAt.elem (enc:=tmCells) (k:=3) hc (fun _=>rfl) hu (i:=0) rfl
 have c1:=CellsAt.elem (enc:=tmCells) (k:=3) hc (fun _=>rfl) hu (i:=1) rfl
 have c2:=CellsAt.elem (enc:=tmCells) (k:=3) hc (fun _=>rfl) hu (i:=2) rfl
 rw [e2] at c1 c2
 rw [e1,Nat.add_zero] at c0
 exact⟨o,_,c,c0,c1,c2,rfl,h2,h1⟩⟩
def SmallT (l:List Tomb):Prop:=∀t∈l,t.1.length≤100000∧∀y∈t.1,y.1.length≤100000∧y.2.length≤100000
end Go.Proofs.YtejeflddeanccaaGreatDoor
