/- Plain laws, no program. No conditions. -/
import Derived.Test.YtbecggfbblnglaaGreatDoorT11
import Derived.Test.YtbecggfbblnglaaGreatDoorP1
set_option linter.unusedSimpArgs false
set_option linter.unusedVariables false
set_option linter.deprecated false
set_option linter.unnecessarySimpa false
namespace Go.Proofs.YtbecggfbblnglaaGreatDoor
open Go Go.RowKit Go.Ix Go.Gor
def smpCells (x:Smp):List Value:=[.int .i64 x.1,.int .u64 (x.2:Nat)]
abbrev Ser:=List Lbl×List Smp
def RowsM (w:World) (o:Option Addr) (l:List Smp):Prop:=l≠[]→∃b off,o=some ⟨b,off,none⟩∧CellsAt w b off (l.flatMap smpCells)
theorem RowsM.olds {w W:World}{o:Option Addr}{l:List Smp}(h:RowsM w o l) (hb:Olds w W):RowsM W o l:=fun hne=>by
 obtain⟨b,off,e,hc⟩:=h hne
 exact⟨b,off,e,hc.olds hb⟩
theorem RowsM.at {w:World}{o:Option Addr}{l:List Smp}(h:RowsM w o l) {k:Nat}(hk:k<l.length) :
  ∃b off y1 y2,o=some ⟨b,off,none⟩∧l[k]?=some (y1,y2)∧w.cell? ⟨b,off+k * 2,none⟩=some (.int .i64 y1)∧w.cell? ⟨b,off+k * 2+1,none⟩=some (.int .u64 (y2:Nat)):=by
 obtain⟨b,off,e,hc⟩:=h (fun e=>by rw [e] at hk;simp at hk)
 have hp:l[k]?=some (l[k].1,l[k].2):=List.getElem?_eq_getElem hk
 exact⟨b,off,_,_,e,hp,hc.elem (k:=2) (i:=0) (fun _=>rfl) hp rfl,hc.elem (k:=2) (i:=1) (fun _=>rfl) hp rfl⟩
theorem RowsM.next {w:World}{b off:Nat}{l:List Smp}(h:RowsM w (some ⟨b,off,none⟩) l) {k:Nat}(hk:k<l.length):∃y1 y2,l[k]?=some (y1,y2)∧w.cell? ⟨b,off+k * 2,none⟩=some (.int .i64 y1)∧w.cell? ⟨b,off+k * 2+1,none⟩=some (.int .u64 (y2:Nat)):=by
 obtain⟨b',off',y1,y2,e,h⟩:=h.at hk
 cases e
 exact⟨y1,y2,h⟩
def Ser2 (w:World) (b off:Nat) (e:Ser):Prop :=
 ∃o1 n1 c1 o2 n2 c2,w.cell? ⟨b,off,none⟩=some (.slice o1 n1 c1)∧w.cell? ⟨b,off+1,none⟩=some (.slice o2 n2 c2)∧e.1.length=n1∧e.2.length=n2∧Rows2 w o1 e.1∧RowsM w o2 e.2∧(o1=none→c1=0)∧(o2=none→c2=0)∧n2≤c2
def RowsR (w:World) (o:Option Addr) (l:List Ser):Prop:=l≠[]→∃b off,o=some ⟨b,off,none⟩∧∀k e,l[k]?=some e→Ser2 w b (off+k * 2) e
theorem Ser2.olds {w W:World}{b off:Nat}{e:Ser}(h:Ser2 w b off e) (hb:Olds w W):Ser2 W b off e:=by
 obtain⟨o1,n1,c1,o2,n2,c2,h1,h2,h3,h4,h5,h6,h7⟩:=h
 exact⟨o1,n1,c1,o2,n2,c2,hb.cell h1,hb.cell h2,h3,h4,h5.olds hb,h6.olds hb,h7⟩
theorem RowsR.olds {w W:World}{o:Option Addr}{l:List Ser}(h:RowsR w o l) (hb:Olds w W):RowsR W o l:=fun hne=>by
 obtain⟨b,off,e,hc⟩:=h hne
 exact⟨b,off,e,fun k x hx=>(hc k x hx).olds hb⟩
theorem RowsR.at {w:World}{o:Option Addr}{l:List Ser}(h:RowsR w o l) {k:Nat}(hk:k<l.length) :
  ∃b off e1 e2 o1 n1 c1 o2 n2 c2,o=some ⟨b,off,none⟩∧l[k]?=some (e1,e2)∧w.cell? ⟨b,off+k * 2,none⟩=some (.slice o1 n1 c1)∧w.cell? ⟨b,off+k * 2+1,none⟩=some (.slice o2 n2 c2)∧e1.length=n1∧e2.length=n2∧Rows2 w o1 e1∧RowsM w o2 e2∧(o1=none→c1=0)∧(o2=none→c2=0)∧n2≤c2:=by
 obtain⟨b,off,e,hc⟩:=h (fun e=>by rw [e] at hk;simp at hk)
 have hx:l[k]?=some (l[k].1,l[k].2):=List.getElem?_eq_getElem hk
 obtain⟨o1,n1,c1,o2,n2,c2,h⟩:=hc k _ hx
 exact⟨b,off,_,_,o1,n1,c1,o2,n2,c2,e,hx,h⟩
theorem RowsR.next {w:World}{b off:Nat}{l:List Ser}(h:RowsR w (some ⟨b,off,none⟩) l) {k:Nat}(hk:k<l.length) :
  ∃e1 e2 o1 n1 c1 o2 n2 c2,l[k]?=some (e1,e2)∧w.cell? ⟨b,off+k * 2,none⟩=some (.slice o1 n1 c1)∧w.cell? ⟨b,off+k * 2+1,none⟩=some (.slice o2 n2 c2)∧e1.length=n1∧e2.length=n2∧Rows2 w o1 e1∧RowsM w o2 e2∧(o1=none→c1=0)∧(o2=none→c2=0)∧n2≤c2:=by
 obtain⟨b',off',e1,e2,o1,n1,c1,o2,n2,c2,e,h⟩:=h.at hk
 cases e
 exact⟨e1,e2,o1,n1,c1,o2,n2,c2,h⟩
end Go.Proofs.YtbecggfbblnglaaGreatDoor
