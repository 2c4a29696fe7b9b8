/- The closed run of a Go program whose memory is known only up to a renaming of blocks: what it computes is true of every world and tape. No conditions. -/
import Derived.Test.YtbecggfbblnglaaGreatDoorEng7
set_option linter.unusedSimpArgs false
set_option linter.unusedVariables false
set_option linter.deprecated false
set_option linter.unnecessarySimpa false
namespace Go.Eng
open Go Go.RowKit
noncomputable def bytesAtA (t:Tr Value) (m:Nat):Nat→List Nat→Bool
 | _,[]=>true
 | o,x :: l=>(match t.get o with | some (.int .u8 y)=>decide (y=(x:Int)) | _=>false) && (Nat.blt o m && bytesAtA t m (o+1) l)
noncomputable def bytesInA (S:AState) (b off:Nat) (bs:List Nat):Bool:=match S.heap.get b with
 | some (.cells t m _ _ _ _)=>bytesAtA t m off bs
 | _=>false
theorem bytesAtA_spec {t:Tr Value}{m:Nat}:∀{bs:List Nat}{o:Nat},bytesAtA t m o bs=true→∀(j:Nat) (x:Nat),bs[j]?=some x→t.get (o+j)=some (.int .u8 x)∧o+j<m
 | [],_,_,j,x,hj=>by simp at hj
 | y :: l,o,h,j,x,hj=>by
  unfold bytesAtA at h
  rw [Bool.and_eq_true,Bool.and_eq_true] at h
  obtain⟨h1,h2,h3⟩:=h
  cases j with
  | zero =>
   have:y=x:=by simpa using hj
   subst this
   rw [Nat.add_zero]
   refine⟨?_,Nat.lt_of_succ_le (by simpa [Nat.blt] using h2)⟩
   split at h1
   ·rename_i z hz
    have hzz:z=(y:Int):=by simpa using h1
    rw [hz,hzz]
   ·cases h1
  | succ j =>
   have:=bytesAtA_spec h3 j x (by simpa using hj)
   rw [show o+(j+1)=o+1+j by omega]
   exact this
theorem WR.more {P:Program}{B:Nat}{w0 w w':World}{ρ:Ren}{S:AState}(h:WR P B w0 ρ S w) (hb:Below w.heap.size w w'):WR P B w0 ρ S w' :=
 ⟨h.below.trans (hb.mono h.hB),Nat.le_trans h.hB hb.size,fun i hi=>Nat.lt_of_lt_of_le (h.rng i hi) hb.size,h.own,h.inj,fun i o hg=>by
  obtain⟨h1,o',h2,h3⟩:=h.obj i o hg
  exact⟨h1,o',(hb.block _ (Array.getElem?_eq_some_iff.1 h2).1).trans h2,h3⟩⟩
theorem ans_read {P:Program}{f:FuncId}{k:IntKind}{z:Int}{bs:List Nat}{n:Nat}
  (hc:∀(w:World) (b off c:Nat),P.globals.size+5≤w.heap.size→(∀(j:Nat) (x:Nat),bs[j]?=some x→w.cell? ⟨b,off+j,none⟩=some (.int .u8 x))→Calls P f #[.slice (some ⟨b,off,none⟩) n c] w fun e w'=>e=.returned (.int k z)∧Below w.heap.size w w')
  {S:AState}{b off c:Nat}(hS:bytesInA S b off bs=true) (B:Nat) (w0:World) (ρ:Ren) (w:World) (args':Array Value) (hb:Base P ρ S.next) (hw:WR P B w0 ρ S w)
  (ha:ArrR ρ S.next (#[.slice (some ⟨b,off,none⟩) n c]:Array Value) args'):Calls P f args' w (GivesM P B w0 ρ S (.int k z) S):=by
 obtain⟨l'⟩:=args'
 have h:LR (VR ρ S.next) [.slice (some ⟨b,off,none⟩) n c] l':=ha.list
 unfold bytesInA at hS
 split at hS
 case h_2=>cases hS
 rename_i t m e lo hi g hget
 obtain⟨hlt,o',ho',hobj⟩:=hw.obj _ _ hget
 have hgs:P.globals.size+5≤w.heap.size:=by
  have h1:=hb.1
  have h2:=hw.rng (P.globals.size+4) (by omega)
  have h3:=(hb.2 (P.globals.size+4) (by omega)).1
  omega
 cases h with
 | cons h1 h =>
  cases h with
  | nil =>
   cases h1 with
   | slice a _ _ hab hs =>
    cases hobj with
    | @cells _ _ c' _ _ _ lo' hi' _ _ hsz hg hcl hf hl =>
     have hcells:∀(j:Nat) (x:Nat),bs[j]?=some x→w.cell? ⟨ρ.f b,off+j,none⟩=some (.int .u8 x):=fun j x hj=>by
      obtain⟨q1,q2⟩:=bytesAtA_spec hS j x hj
      obtain⟨v',q3,q4⟩:=hcl _ _ q2 q1
      cases q4
      simp [World.cell?,ho',q3]
     exact (hc w (ρ.f b) off _ hgs hcells).mono fun e w' ⟨he,hbw⟩=>⟨_,ρ,he,.int _ _,hw.more hbw,Ext.refl _ _,Nat.le_refl _,rfl⟩
end Go.Eng
