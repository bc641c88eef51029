/- Parts of the proof. -/
import Derived.Test.YtpipekfmecikmaaGreatDoorA40
import Derived.Test.YtpipekfmecikmaaGreatDoorRows
import Derived.LaidHandle
import Derived.LaidLaws
import Derived.LaidSub
import Derived.Stop.Joined
import Derived.LaidMore
import Derived.ChangeArms
import Derived.Handed
set_option maxHeartbeats 0
set_option linter.all false
namespace Go.Proofs.YtpipekfmecikmaaGreatDoor
open Go Go.RowKit Go.Wk Go.ChangeShapes Go.WideShapes Go.ChangeAt Proofs.Tryz
section
variable {H:Type}{enc:TypeId × Value->H}{w:World}{sp:Nat->Bool}{held:Bool}
theorem ZhH {d:DataW H}:∀ {l:List (DataW H)},d∈l->Rows.uptoBulk d<=Rows.uptoBulkAll l
 | x::r,h=>by
  rw[Rows.uptoBulkAll]
  rcases List.mem_cons.1 h with rfl|h
  ·omega
  ·have:=ZhH h;omega
theorem ZgY {m:Nat}:∀ {l:List (DataW H)},(∀ d∈l,m<=Rows.uptoBulk d)->m*l.length<=Rows.uptoBulkAll l
 | [],_=>Nat.zero_le _
 | x::r,h=>by
  rw[Rows.uptoBulkAll,List.length_cons,Nat.mul_succ]
  have b:=h x (.head _)
  have c:=ZgY (l:=r) (fun d a=>h d (.tail _ a))
  omega
theorem Zqn (d:DataW H):1<=Rows.uptoBulk d:=by
 cases d with
 | lit l=>cases l <;> simp[Rows.uptoBulk]
 | _=>rw[Rows.uptoBulk];first|omega|exact Nat.le_refl _
theorem ZeT {t:TypeId}{fuel:Nat}{cs:List Value}{x:DataW H × List MemPlace}{j:Array Field}(q:prog.underlying t=some (.struct j))(h:DataW.trod enc prog w 0 sp held fuel t cs=some x) :
  j.size+1<=Rows.uptoBulk x.1/\∀ (i ty b sz:Nat),(j[i]?).map (fun f=>(f.type,f.offset))=some (ty,b)->prog.cellsOf ty=sz->∃ n y,DataW.trod enc prog w 0 sp held n ty ((cs.drop b).take sz)=some y/\Rows.uptoBulk y.1<=Rows.uptoBulk x.1:=by
 obtain⟨xs,n,_,rfl,r,a,o⟩:=DataW.trod_struct q h
 dsimp only
 rw[Rows.uptoBulk]
 refine⟨?_,fun i ty b sz p k=>⟨n,?_⟩⟩
 ·have:=ZgY (m:=1) (l:=xs.map (·.1)) (fun d _=>Zqn d)
  rw[List.length_map,a]at this
  omega
 ·obtain⟨f,c,e⟩:=Option.map_eq_some_iff.1 p
  simp only[Prod.mk.injEq]at e
  obtain⟨rfl,rfl⟩:=e
  subst k
  have:=o i f c
  have g:i<xs.length:=by rw[a];exact(Array.getElem?_eq_some_iff.1 c).1
  rw[List.getElem?_eq_getElem g]at this
  refine⟨_,this,?_⟩
  have:=ZhH (d:=(xs[i]).1) (l:=xs.map (·.1)) (List.mem_map.2 ⟨_,List.getElem_mem g,rfl⟩)
  omega
theorem Zl5 {α:Type}{t e:TypeId}{fuel N m:Nat}{v:Value}{x:DataW H × List MemPlace}(Q:prog.underlying t=some (.slice e))(R:α->List Value->Prop)
  (I:∀ n cs y,DataW.trod enc prog w 0 sp held n e cs=some y->m<=Rows.uptoBulk y.1/\(Rows.uptoBulk y.1<=N->∃ a,R a cs)) (h:DataW.trod enc prog w 0 sp held fuel t [v]=some x) (G:Rows.uptoBulk x.1<=N) :
  ∃ (A:Option Addr) (l:List α) (c:Nat),v = .slice A l.length c/\l.length<=c/\c<=maxLen/\m*l.length<=N/\∀ k a,l[k]?=some a->A≠none/\∃ cs,R a cs/\Zat w ((adr A).add (k*prog.cellsOf e)) cs:=by
 rcases Deep.open_slice Q h with⟨h0,_⟩|⟨a,len,cap,q,n,D,Pl,hcs,hb,hl,hm,hmm,hx,hi⟩
 ·injection h0 with h0 _
  exact⟨none,[],0,h0,Nat.le_refl _,Nat.zero_le _,Nat.zero_le _,fun k a h=>by simp at h⟩
 ·injection hcs with hcs _
  have P:len<=q:=by rw[hmm];split <;> omega
  subst hx
  rw[Rows.uptoBulk]at G
  have B:∀ i,i<len->Rows.uptoBulk (D i)<=N:=fun i r=>by
   have:=ZhH (d:=D i) (l:=(List.range len).map D) (List.mem_map.2 ⟨i,List.mem_range.2 r,rfl⟩)
   omega
  have key:∀ i,i<len->∃ f:α,∃ cs,R f cs/\Zat w (a.add (i*prog.cellsOf e)) cs:=fun i r=>by
   obtain⟨s,o,p⟩:=hi i (by omega)
   obtain⟨f,u⟩:=(I _ _ _ p).2 (B i r)
   obtain⟨_,L,z⟩:=World.cells?_some o
   refine⟨f,s,u,fun j v J=>?_⟩
   rw[z j (by have:=(List.getElem?_eq_some_iff.1 J).1;omega),J]
  have F:m*len<=N:=by
   have:=ZgY (m:=m) (l:=(List.range len).map D) (fun d M=>by
    obtain⟨i,C,rfl⟩:=List.mem_map.1 M
    obtain⟨s,_,p⟩:=hi i (by have:=List.mem_range.1 C;omega)
    exact(I _ _ _ p).1)
   rw[List.length_map,List.length_range]at this
   omega
  clear hi G
  have all:∀ n,n<=len->∃ l:List α,l.length=n/\∀ k f,l[k]?=some f->∃ cs,R f cs/\Zat w (a.add (k*prog.cellsOf e)) cs:=by
   intro n
   induction n with
   | zero=>exact fun _=>⟨[],rfl,fun k f h=>by simp at h⟩
   | succ n ih =>
    intro S
    obtain⟨l,o,p⟩:=ih (by omega)
    obtain⟨f,K⟩:=key n (by omega)
    refine⟨l++[f],by simp[o],fun k b g=>?_⟩
    by_cases O:k<n
    ·rw[List.getElem?_append_left (by omega)]at g
     exact p k b g
    ·have E:=(List.getElem?_eq_some_iff.1 g).1
     simp at E
     have:k=n:=by omega
     subst this
     rw[List.getElem?_append_right (by omega),o]at g
     simp at g
     subst g
     exact K
  obtain⟨l,o,p⟩:=all len (Nat.le_refl _)
  exact⟨some a,l,cap,by rw[hcs,o],by omega,hm,by rw[o];exact F,fun k b g=>⟨by simp,p k b g⟩⟩
theorem ZfV {α:Type}{t e:TypeId}{fuel N m:Nat}{v:Value}{x:DataW H × List MemPlace}(B:prog.underlying t=some (.slice e))(b:α->List Value)(ok:α->Prop){sz:Nat}(g:prog.cellsOf e=sz)
  (u:∀ n cs y,DataW.trod enc prog w 0 sp held n e cs=some y->m<=Rows.uptoBulk y.1/\(Rows.uptoBulk y.1<=N->∃ a,cs=b a/\ok a)) (h:DataW.trod enc prog w 0 sp held fuel t [v]=some x) (r:Rows.uptoBulk x.1<=N) :
  ∃ (A:Option Addr) (l:List α) (c:Nat),v = .slice A l.length c/\RdSl w A c b sz l/\m*l.length<=N/\∀ a∈l,ok a:=by
 obtain⟨A,l,c,o,p,q,z,i⟩:=Zl5 B (fun(a:α) cs=>cs=b a/\ok a) u h r
 refine⟨A,l,c,o,⟨p,q,fun k a f=>?_⟩,z,fun a s=>?_⟩
 ·obtain⟨d,cs,⟨rfl,_⟩,j⟩:=i k a f
  rw[g]at j
  exact⟨d,j⟩
 ·obtain⟨k,f⟩:=List.getElem?_of_mem s
  obtain⟨_,_,⟨_,d⟩,_⟩:=i k a f
  exact d
theorem Zdg {n:Nat}{s:ByteArray}{y:DataW H × List MemPlace}(h:DataW.trod enc prog w 0 sp held n 9 [.string s]=some y):s.size+1=Rows.uptoBulk y.1:=by
 obtain⟨x,e,rfl,_⟩:=DataW.trod_string underlying9 h
 simp only[List.cons.injEq,Value.string.injEq,and_true]at e
 subst e
 rw[Rows.uptoBulk]
 rfl
theorem ZAj {N n:Nat}{cs:List Value}{y:DataW H × List MemPlace}(h:DataW.trod enc prog w 0 sp held n 9 cs=some y):1<=Rows.uptoBulk y.1/\(Rows.uptoBulk y.1<=N->∃ d:ByteArray,cs=ZaR d/\d.size<=maxLen/\d.size<=N):=by
 refine⟨Zqn _,fun b=>?_⟩
 obtain⟨d,rfl,a⟩:=ZxO h
 have:=Zdg h
 exact⟨d,rfl,a,by omega⟩
theorem ZsZ {N n:Nat}{cs:List Value}{y:DataW H × List MemPlace}(h:DataW.trod enc prog w 0 sp held n 68 cs=some y):2<=Rows.uptoBulk y.1/\(Rows.uptoBulk y.1<=N->∃ d:DRule,cs=d.enc/\d.ok/\d.name.size<=N/\d.letter.size<=N):=by
 obtain⟨e,b⟩:=ZeT underlying68 h
 refine⟨Nat.le_trans (by decide) e,fun k=>?_⟩
 obtain⟨d,rfl,g⟩:=Zwt h
 have a:prog.cellsOf 9=1:=by kernel_rfl
 obtain⟨o,q,c,l⟩:=b 0 9 0 1 rfl a
 obtain⟨p,r,f,m⟩:=b 7 9 10 1 rfl a
 have i:=Zdg (s:=d.name) c
 have j:=Zdg (s:=d.letter) f
 exact⟨d,rfl,g,by omega,by omega⟩
theorem Zs0 {N n:Nat}{cs:List Value}{y:DataW H × List MemPlace}(h:DataW.trod enc prog w 0 sp held n 77 cs=some y):2<=Rows.uptoBulk y.1/\(Rows.uptoBulk y.1<=N->∃ d:DLink,cs=d.enc/\d.ok/\d.target.size<=N/\d.name.size<=N):=by
 obtain⟨e,b⟩:=ZeT underlying77 h
 refine⟨Nat.le_trans (by decide) e,fun k=>?_⟩
 obtain⟨d,rfl,g⟩:=Zwu h
 have a:prog.cellsOf 9=1:=by kernel_rfl
 obtain⟨o,q,c,l⟩:=b 0 9 0 1 rfl a
 obtain⟨p,r,f,m⟩:=b 1 9 1 1 rfl a
 have i:=Zdg (s:=d.target) c
 have j:=Zdg (s:=d.name) f
 exact⟨d,rfl,g,by omega,by omega⟩
theorem Zwv {N n:Nat}{cs:List Value}{y:DataW H × List MemPlace}(h:DataW.trod enc prog w 0 sp held n 75 cs=some y):2<=Rows.uptoBulk y.1/\(Rows.uptoBulk y.1<=N->∃ d:DEra,cs=d.enc/\d.ok/\d.set.size<=N/\d.format.size<=N):=by
 obtain⟨e,b⟩:=ZeT underlying75 h
 refine⟨Nat.le_trans (by decide) e,fun k=>?_⟩
 obtain⟨d,rfl,g⟩:=ZAi h
 have a:prog.cellsOf 9=1:=by kernel_rfl
 obtain⟨o,q,c,l⟩:=b 3 9 3 1 rfl a
 obtain⟨p,r,f,m⟩:=b 4 9 4 1 rfl a
 have i:=Zdg (s:=d.set) c
 have j:=Zdg (s:=d.format) f
 exact⟨d,rfl,g,by omega,by omega⟩
theorem ZsY {N n:Nat}{cs:List Value}{y:DataW H × List MemPlace}(h:DataW.trod enc prog w 0 sp held n 71 cs=some y) :
  2<=Rows.uptoBulk y.1/\(Rows.uptoBulk y.1<=N->∃ z:DZone,ZkA w z cs/\z.ok/\z.name.size<=N/\2*z.eras.length<=N/\∀ e∈z.eras,e.set.size<=N/\e.format.size<=N):=by
 obtain⟨p,_⟩:=Zdp underlying71 h
 obtain⟨C,o⟩:=ZeT underlying71 h
 refine⟨Nat.le_trans (by decide) C,fun B=>?_⟩
 rw[show prog.cellsOf 71=2 from by kernel_rfl]at p
 obtain⟨a0,r,rfl,b⟩:=Zaw p
 obtain⟨D,t,rfl,f⟩:=Zaw b
 obtain rfl:=List.eq_nil_of_length_eq_zero f
 obtain⟨G,J,j,F⟩:=o 0 9 0 1 rfl (by kernel_rfl)
 obtain⟨I,K,u,k1⟩:=o 1 69 1 1 rfl (by kernel_rfl)
 obtain⟨g,i,q⟩:=ZxO j
 simp only[List.drop,List.take,ZaR,List.cons.injEq,and_true]at i
 subst i
 have E:=Zdg (s:=g) j
 obtain⟨A,l,c,rfl,v,x,k⟩:=ZfV (m:=2) underlying69 DEra.enc (fun d=>d.ok/\d.set.size<=N/\d.format.size<=N) (sz:=13) (by kernel_rfl) (fun n cs y h=>Zwv h) u (Nat.le_trans k1 B)
 exact⟨⟨g,l⟩,⟨A,c,v,rfl⟩,⟨q,fun e a=>(k e a).1⟩,by show g.size<=N;omega,x,fun e a=>(k e a).2⟩
set_option maxRecDepth 100000 in
theorem Zmv {v:Value}{r:Reach}{L:Nat}{d:DataW H}{ps:List MemPlace}(Y:Value.okWide prog w r L 27 v)(h:DataW.Trod enc prog w 0 sp held 27 v d ps)(o:Rows.uptoBulk d<=1048576) :
  ∃ Ar Az Al As i j g cs s,v=srcV Ar Az Al As i j g cs s/\Zam w Ar Az Al As i j g cs s/\s.ok/\ZcH s:=by
 obtain⟨vs,rfl,X⟩:=okWide_struct underlying27 Y
 obtain⟨fuel,h⟩:=h
 obtain⟨a,_⟩:=Zdp underlying27 h
 obtain⟨_,c⟩:=ZeT underlying27 h
 rw[show prog.cellsOf 27=4 from by kernel_rfl]at a
 obtain⟨vs⟩:=vs
 simp only[Value.cells]at a c
 obtain⟨a0,M,rfl,A⟩:=Zaw a
 obtain⟨a1,O,rfl,B⟩:=Zaw A
 obtain⟨a2,P,rfl,C⟩:=Zaw B
 obtain⟨a3,Q,rfl,D⟩:=Zaw C
 obtain rfl:=List.eq_nil_of_length_eq_zero D
 obtain⟨n0,y0,R,k0⟩:=c 0 22 0 1 rfl (by kernel_rfl)
 obtain⟨n1,y1,S,k1⟩:=c 1 23 1 1 rfl (by kernel_rfl)
 obtain⟨n2,y2,T,k2⟩:=c 2 24 2 1 rfl (by kernel_rfl)
 obtain⟨n3,y3,U,k3⟩:=c 3 25 3 1 rfl (by kernel_rfl)
 obtain⟨Ar,K,i,rfl,r1,r3,G⟩:=ZfV (N:=1048576) (m:=2) underlying22 DRule.enc (fun d=>d.ok/\d.name.size<=1048576/\d.letter.size<=1048576) (sz:=11) (by kernel_rfl) (fun n cs y h=>ZsZ h) R (Nat.le_trans k0 o)
 obtain⟨Az,F,j,rfl,z1,z2,z4,z3⟩:=Zl5 (N:=1048576) (m:=2) underlying23 (fun(z:DZone) cs=>ZkA w z cs/\z.ok/\z.name.size<=1048576/\2*z.eras.length<=1048576/\∀ e∈z.eras,e.set.size<=1048576/\e.format.size<=1048576) (fun n cs y h=>ZsY h) S (Nat.le_trans k1 o)
 obtain⟨Al,J,g,rfl,l1,l3,E⟩:=ZfV (N:=1048576) (m:=2) underlying24 DLink.enc (fun d=>d.ok/\d.target.size<=1048576/\d.name.size<=1048576) (sz:=2) (by kernel_rfl) (fun n cs y h=>Zs0 h) T (Nat.le_trans k2 o)
 obtain⟨As,ls,cs,rfl,s1,s3,s2⟩:=ZfV (N:=1048576) (m:=1) underlying25 ZaR (fun d=>d.size<=maxLen/\d.size<=1048576) (sz:=1) (by kernel_rfl) (fun n cs y h=>ZAj h) U (Nat.le_trans k3 o)
 rw[show prog.cellsOf 71=2 from by kernel_rfl]at z3
 have f:∀ z∈F,z.ok/\z.name.size<=1048576/\2*z.eras.length<=1048576/\∀ e∈z.eras,e.set.size<=1048576/\e.format.size<=1048576:=fun z b=>by
  obtain⟨k,u⟩:=List.getElem?_of_mem b
  obtain⟨_,_,⟨_,t⟩,_⟩:=z3 k z u
  exact t
 refine⟨Ar,Az,Al,As,i,j,g,cs,⟨K,F,J,ls⟩,rfl,⟨r1,z1,z2,fun k z u=>?_,l1,s1⟩,⟨fun r p=>(G r p).1,fun z b=>(f z b).1,fun l a=>(E l a).1,fun x Z=>(s2 x Z).1⟩,?_⟩
 ·obtain⟨V,q,⟨t,_⟩,W⟩:=z3 k z u
  exact⟨V,q,t,W⟩
 ·exact{
   nr:=by show K.length<=_;omega
   nz:=by show F.length<=_;omega
   nl:=by show J.length<=_;omega
   ns:=by show ls.length<=_;omega
   rs:=fun r p=>⟨by have:=(G r p).2.1;omega,by have:=(G r p).2.2;omega⟩
   zs:=fun z b=>⟨by have:=(f z b).2.1;omega,by have:=(f z b).2.2.1;omega,fun e I=>⟨by have:=((f z b).2.2.2 e I).1;omega,by have:=((f z b).2.2.2 e I).2;omega⟩⟩
   ls:=fun l a=>⟨by have:=(E l a).2.1;omega,by have:=(E l a).2.2;omega⟩ }
end
section
variable {H:Type}{enc:TypeId × Value->H}{w:World}{sp:Nat->Bool}{held:Bool}
set_option maxRecDepth 100000 in
theorem Zp1 {v:Value}{r:Reach}{a:Nat}{d:DataW H}{c:List MemPlace}(b:Value.okWide prog w r a 2 v)(_:DataW.Trod enc prog w 0 sp held 2 v d c):∃ x:Int,v = .int .i64 x:=by
 obtain⟨n,rfl⟩:=okWide_int underlying2 b
 exact⟨n,rfl⟩
set_option maxRecDepth 100000 in
theorem ZwE {v:Value}{r:Reach}{a:Nat}{d:DataW H}{c:List MemPlace}(b:Value.okWide prog w r a 9 v)(_:DataW.Trod enc prog w 0 sp held 9 v d c):∃ x:ByteArray,v = .string x:=by
 obtain⟨s,rfl⟩:=okWide_string underlying9 b
 exact⟨s,rfl⟩
end
end Go.Proofs.YtpipekfmecikmaaGreatDoor
namespace Go.Wk
open Go Go.RowKit Go.ChangeShapes Go.WideShapes Go.ChangeAt
section
variable {H:Type}{enc:TypeId × Value->H}
def Zw8:DataW Unit->List Value
 | .agg l=>l.map fun | .lit (.int k n) => .int k n|_=>undef
 | .lit (.int k n)=>[.int k n]
 | _=>[]
end
def ZAf (P:Program)(tb:List (String × FuncId))(tok:List UInt8):Option FuncId :=
 if tok=[] then none else (tb.find? fun x=>x.1.toUTF8.data.toList==tok&&P.funcNamed x.1==some x.2).map (·.2)
section
variable {H:Type}
def ZiB (P:Program)(tok:H->Option FuncId):Nat->TypeId->DataW H->Nat->Option Value
 | 0,_,_,_=>none
 | f+1,t,d,j =>
  match P.underlying t,d with
  | some .bool,.lit (.bool b)=>if j=0 then some (.bool b) else none
  | some (.int k),.lit (.int _ n)=>if j=0 then some (.int k n) else none
  | some .string,.lit (.string l)=>if j=0 then some (.string ⟨l.toArray⟩) else none
  | some (.func ..),.nil=>if j=0 then some .nilFunc else none
  | some (.func ..),.held x=>if j=0 then (tok x).map fun g => .func (.func g) #[] #[] else none
  | some (.array n e),.agg ds=>if j / P.cellsOf e<n then (match ds[j / P.cellsOf e]? with|some d'=>ZiB P tok f e d' (j % P.cellsOf e)|none=>none) else none
  | some (.struct fs),.agg ds =>
   match (List.range fs.size).find? fun i=>match fs[i]? with|some x=>decide (x.offset<=j)&&decide (j<x.offset+P.cellsOf x.type)|none=>false with
   | some i=>(match fs[i]?,ds[i]? with|some x,some d'=>ZiB P tok f x.type d' (j - x.offset)|_,_=>none)
   | none=>none
  | _,_=>none
end
theorem ZnY {P:Program}{c:List (String × FuncId)}{l:List UInt8}{g:FuncId}{t:TypeId}{v:Value}(h:ZAf P c l=some g)(j:funcToken P (t,v)=l):v = .func (.func g) #[] #[]:=by
 unfold ZAf at h
 cases l with
 | nil=>rw[if_pos rfl]at h;cases h
 | cons b r =>
  obtain⟨f,fn,rfl,k,d,e⟩:=funcToken_tells j
  rw[if_neg (by simp)]at h
  cases hx:c.find? (fun x=>x.1.toUTF8.data.toList==b::r&&P.funcNamed x.1==some x.2) with
  | none=>rw[hx]at h;cases h
  | some x =>
   rw[hx]at h
   have a:=List.find?_some hx
   simp only[Bool.and_eq_true,beq_iff_eq]at a
   have i:x.1=fn.name:=by
    have:x.1.toUTF8=fn.name.toUTF8:=by
     apply ByteArray.ext
     apply Array.ext'
     rw[a.1,e]
    exact String.toByteArray_inj.1 this
   rw[i,d]at a
   have:=a.2
   simp only[Option.map_some,Option.some.injEq]at h this
   rw[this,h]
theorem Zms {cs:List Value}{o c j:Nat}{v:Value}(h:((cs.drop o).take c)[j]?=some v):cs[o+j]?=some v:=by
 rw[List.getElem?_take]at h
 split at h
 ·rwa[List.getElem?_drop]at h
 ·cases h
theorem ZiA {H:Type}{enc:TypeId × Value->H}{q:H->Option FuncId}{P:Program}{w:World}{base:Nat}{I:Nat->Bool}{held:Bool}(l:∀ t v g,q (enc (t,v))=some g->v = .func (.func g) #[] #[]):∀ (f:Nat) (t:TypeId) (d:DataW H) (j:Nat) (v:Value) (fuel:Nat) (cs:List Value) (p:List MemPlace),ZiB P q f t d j=some v ->
  DataW.trod enc P w base I held fuel t cs=some (d,p)->cs[j]?=some v
 | 0,_,_,_,_,_,_,_,h,_=>by cases h
 | f+1,t,d,j,v,fuel,cs,p,h,ht=>by
  unfold ZiB at h
  split at h
  ·rename_i c
   obtain⟨K,rfl,a⟩:=DataW.trod_bool c ht
   simp only[Prod.mk.injEq,DataW.lit.injEq,Lit.bool.injEq]at a
   split at h
   ·rename_i k
    subst k
    simp only[Option.some.injEq]at h
    rw[<- h,a.1];rfl
   ·cases h
  ·rename_i c
   obtain⟨M,rfl,a,_⟩:=DataW.trod_int c ht
   simp only[Prod.mk.injEq,DataW.lit.injEq,Lit.int.injEq]at a
   split at h
   ·rename_i k
    subst k
    simp only[Option.some.injEq]at h
    rw[<- h,a.1.2];rfl
   ·cases h
  ·rename_i c
   obtain⟨s,rfl,a,_⟩:=DataW.trod_string c ht
   simp only[Prod.mk.injEq,DataW.lit.injEq,Lit.string.injEq]at a
   split at h
   ·rename_i k
    subst k
    simp only[Option.some.injEq]at h
    rw[<- h,a.1];simp
   ·cases h
  ·rename_i c
   split at h
   ·rename_i k
    subst k
    cases fuel with
    | zero=>simp[DataW.trod]at ht
    | succ n =>
     unfold DataW.trod at ht
     rw[c]at ht
     simp only[Option.some.injEq]at h
     subst h
     split at ht <;> simp_all
   ·cases h
  ·rename_i c
   split at h
   ·rename_i k
    subst k
    cases fuel with
    | zero=>simp[DataW.trod]at ht
    | succ n =>
     unfold DataW.trod at ht
     rw[c]at ht
     rename_i J
     cases hk:q J with
     | none=>rw[hk]at h;cases h
     | some g =>
      rw[hk]at h
      simp only[Option.map_some,Option.some.injEq]at h
      subst h
      split at ht <;> first|(exfalso;simp_all;done)|skip
      all_goals (split at ht <;> first|(exfalso;simp_all;done)|skip)
      all_goals simp only[Option.some.injEq,Prod.mk.injEq,DataW.held.injEq]at ht
      all_goals (rw[<- ht.1]at hk;rw[l _ _ _ hk];rfl)
   ·cases h
  ·rename_i n e E c
   obtain⟨xs,m,rfl,a,u,G,o⟩:=DataW.trod_array c ht
   simp only[Prod.mk.injEq,DataW.agg.injEq]at a
   split at h
   ·rename_i k
    split at h
    ·rename_i z b
     rw[a.1,List.getElem?_map]at b
     cases hy:xs[j / P.cellsOf e]? with
     | none=>rw[hy]at b;cases b
     | some y =>
      rw[hy]at b
      simp only[Option.map_some,Option.some.injEq]at b
      have r:=o _ k
      rw[hy]at r
      have A:=ZiA l f e z _ v m _ y.2 h (by rw[r,<- b])
      have B:=Zms A
      rwa[Nat.mul_comm,Nat.div_add_mod]at B
    ·cases h
   ·cases h
  ·rename_i L E c
   obtain⟨xs,m,rfl,a,u,G,o⟩:=DataW.trod_struct c ht
   simp only[Prod.mk.injEq,DataW.agg.injEq]at a
   split at h
   ·rename_i i F
    split at h
    ·rename_i x z C b
     rw[a.1,List.getElem?_map]at b
     cases hy:xs[i]? with
     | none=>rw[hy]at b;cases b
     | some y =>
      rw[hy]at b
      simp only[Option.map_some,Option.some.injEq]at b
      have r:=o i x C
      rw[hy]at r
      have A:=ZiA l f x.type z _ v m _ y.2 h (by rw[r,<- b])
      have B:=Zms A
      have D:=List.find?_some F
      rw[C]at D
      simp only[Bool.and_eq_true,decide_eq_true_eq]at D
      rwa[show x.offset+(j - x.offset)=j by omega]at B
    ·cases h
   ·cases h
  ·cases h
theorem Zgr {H:Type}{enc:TypeId × Value->H}{c:H->Option FuncId}{P:Program}{w:World}{base:Nat}{x:Nat->Bool}{a:Bool}(b:∀ t v g,c (enc (t,v))=some g->v = .func (.func g) #[] #[]){n:String}{d:DataW H}{g:Nat}{t:TypeId}{cells:List Value}{s:Nat}{cs:Array Value}{i:Nat}{p:List MemPlace}(fuel:Nat)
  (k:P.globalNamed n=some g) (m:w.var? P n=some cs) (o:DataW.trod enc P w base x a i t cs.toList=some (d,p)) (u:(List.range cells.length).map (fun j=>ZiB P c fuel t d (s+j))=cells.map some):Zat w ⟨g,s,none⟩ cells:=by
 intro j v h
 have f:=(List.getElem?_eq_some_iff.1 h).1
 have e:=congrArg (fun l=>l[j]?) u
 simp only[List.getElem?_map,List.getElem?_range f,Option.map_some,h]at e
 simp only[Option.some.injEq]at e
 have q:=ZiA b fuel t _ _ v _ _ _ e o
 rw[Zcl]
 have r:=World.var?_cell k m (s+j)
 rw[r]
 simpa using q
theorem Zfu {P:Program}{w:World}{n:String}{d:DataW Unit}{g:Nat}{t:TypeId}{cells:List Value}{s:Nat}(m:List (String × FuncId))(fuel:Nat)(h:funcsAt P w n d)(i:P.globalNamed n=some g)(l:(P.globals[g]?).map (·.type)=some t)
  (f:(List.range cells.length).map (fun j=>ZiB P (ZAf P m) fuel t d.funcsOut (s+j))=cells.map some):Zat w ⟨g,s,none⟩ cells:=by
 obtain⟨q,t',cs,o,p,a,b,c,e⟩:=h
 obtain rfl:=Option.some.inj (i.symm.trans a)
 obtain rfl:=Option.some.inj (l.symm.trans b)
 exact Zgr (fun _ _ _ k=>ZnY k rfl) fuel a c e f
theorem ZeQ {P:Program}{w:World}:∀ {l:List (String × DataW Unit)} {a:List MemPlace},DataW.LaidVars P w l a->∀ {n:String} {d:DataW Unit},(n,d)∈l ->
  ∃ g t cs fuel p,P.globalNamed n=some g/\(P.globals[g]?).map (·.type)=some t/\w.var? P n=some cs/\DataW.trod (fun _=>()) P w 0 (fun _=>true) false fuel t cs.toList=some (d,p)
 | [],_,_,_,_,h=>by cases h
 | (n0,d0)::l,a,hl,n,d,h=>by
  obtain⟨g,t,cs,fuel,p,q,b,c,e,f,i,_⟩:=hl
  rcases List.mem_cons.1 h with he|h
  ·obtain⟨rfl,rfl⟩:=Prod.mk.inj he
   exact⟨g,t,cs,fuel,p,b,c,e,f⟩
  ·exact ZeQ i h
theorem Zhp {P:Program}{l:List (String × DataW Unit)}{w:World}(h:laidMetH P l w):laidMet P (l.filter fun x=>x.2.handleName?.isNone) w:=by
 unfold laidMetH at h
 generalize hfl:(l.filter fun x=>x.2.handleName?.isSome)=fl at h
 cases fl with
 | nil =>
  have e:(l.filter fun x=>x.2.handleName?.isNone)=l:=by
   rw[List.filter_eq_self]
   intro x b
   have:=(List.filter_eq_nil_iff.1 hfl) x b
   cases hn:x.2.handleName? with
   | none=>rfl
   | some s=>rw[hn]at this;exact absurd rfl this
  rw[e]
  exact h
 | cons a ys=>exact h.1
theorem Zlu {P:Program}{w:World}{l:List (String × DataW Unit)}{n:String}{d:DataW Unit}{g:Nat}{t:TypeId}{cells:List Value}(fuel:Nat)(h:laidMetH P l w)(o:(n,d)∈l.filter fun x=>x.2.handleName?.isNone)(i:P.globalNamed n=some g)(q:(P.globals[g]?).map (·.type)=some t)
  (f:(List.range cells.length).map (fun j=>ZiB P (fun _:Unit=>none) fuel t d (0+j))=cells.map some):Zat w ⟨g,0,none⟩ cells:=by
 obtain⟨u,m,_⟩:=Zhp h
 obtain⟨s,t',cs,r,p,a,b,c,e⟩:=ZeQ m o
 obtain rfl:=Option.some.inj (i.symm.trans a)
 obtain rfl:=Option.some.inj (q.symm.trans b)
 exact Zgr (fun _ _ _ k=>by cases k) fuel a c e f
def ZBV:TypeDesc->Bool | .interface _=>true|_=>false
theorem Zle {P:Program}{w:World}{l:List (String × DataW Unit)}{n:String}{d:DataW Unit}{g:Nat}{t:TypeId}(h:laidMetH P l w)(s:(n,d)∈l.filter fun x=>x.2.handleName?.isNone)(q:P.globalNamed n=some g)(u:(P.globals[g]?).map (·.type)=some t)
  (b:(P.underlying t).map ZBV=some true):∃ ev,w.cell? ⟨g,0,none⟩=some ev/\(ev = .nilIface\/∃ z y,ev = .iface z y):=by
 obtain⟨B,r,_⟩:=Zhp h
 obtain⟨A,t',cs,k,p,e,m,o,a⟩:=ZeQ r s
 obtain rfl:=Option.some.inj (q.symm.trans e)
 obtain rfl:=Option.some.inj (u.symm.trans m)
 have i:=World.var?_cell e o 0
 obtain⟨j,v⟩:∃ j,P.underlying t=some (.interface j):=by
  cases hd:P.underlying t with
  | none=>rw[hd]at b;cases b
  | some td=>cases td <;> first|exact⟨_,rfl⟩|(rw[hd]at b;simp[ZBV]at b)
 cases k with
 | zero=>simp[DataW.trod]at a
 | succ f =>
  unfold DataW.trod at a
  rw[v]at a
  split at a <;> first|(exfalso;simp_all;done)|skip
  ·rename_i c
   exact⟨.nilIface,by rw[i,<- Array.getElem?_toList,c];rfl,.inl rfl⟩
  ·rename_i c
   exact⟨_,by rw[i,<- Array.getElem?_toList,c];rfl,.inr ⟨_,_,rfl⟩⟩
section
variable {H:Type}{enc:TypeId × Value->H}
def upS (s:ChangeSpec)(k:(H:Type)->List (DataW H)->Bool):OpenSpec:={ OpenSpec.ofChange s with cond:=some k }
theorem ZnW {C:Checked}{os:Os}{f:FuncId}{fn:Func}{s:ChangeSpec}{k:(H:Type)->List (DataW H)->Bool}{b:List PathCond}{X:World->Array Value->Prop}(c:World)(args:Array Value)(fuel:Nat)(h:c.os=os)
  (j:(c.forCall (fun _ _=>0) ⟨#[],args,[]⟩).Shaped C.prog)
  (d:Input.okWideB C.prog (c.forCall (fun _ _=>0) ⟨#[],args,[]⟩) f ⟨#[],args,[]⟩=true)
  (e:(DataW.whole enc C.prog (c.forCall (fun _ _=>0) ⟨#[],args,[]⟩).memory fn.params.toList s.vars false args.toList fuel).map (fun x=>b.all (PathCond.test C.prog ⟨fn.params.toList,x.1,s.plain.varTypes C.prog,x.2.1⟩)&&k H (x.1++x.2.1))=some true)
  (l:s.sizedB enc C.prog fn false (c.forCall (fun _ _=>0) ⟨#[],args,[]⟩).memory args fuel=true)
  (n:X (c.forCall (fun _ _=>0) ⟨#[],args,[]⟩).memory args) :
  ∃ (w:World) (a:Tape) (i:Input),w.os=os/\(w.forCall a i).Shaped C.prog/\i.vars=[]/\Input.okWide C.prog (w.forCall a i) .any w.heap.size f i /\
   (((upS s k).pre enc C.prog fn b false (w.forCall a i).memory i.args/\X (w.forCall a i).memory i.args)/\sizedMet enc C.prog fn (upS s k) false (w.forCall a i).memory i.args)/\({}:Assume).holds C.prog (lone (Frame.enter C.prog f i.args .normal) [] (w.forCall a i)):=by
 refine⟨c,fun _ _=>0,⟨#[],args,[]⟩,h,j,(Input.okWide_of_okWideB (base:=0) d).1,(Input.okWide_of_okWideB d).2,⟨⟨?_,n⟩,sizedMet_of_sizedB (s:=s) l⟩,?_⟩
 ·obtain⟨x,m,g⟩:=Option.map_eq_some_iff.1 e
  rw[Bool.and_eq_true]at g
  exact⟨x.1,x.2.1,x.2.2,DataW.Whole_of_whole m,g.1,g.2⟩
 ·simp only[Assume.holds]
  exact⟨by simp,by simp,fun _=>Modest.zero,by simp,by simp⟩
theorem ZoD {C:Checked}{os:Os}{f:FuncId}{fn:Func}{s:ChangeSpec}{k:(H:Type)->List (DataW H)->Bool}{b:List PathCond}{t:TypeId}(d:List (String × DataW Unit))(X:ownKnob C.prog.godebug=none)(g:os.Started)(z:C.prog.inits.idxOf? f=none)(Q:C.prog.funcs[f]?=some fn)
  (m:∃ (w:World) (a:Tape) (i:Input),w.os=os/\(w.forCall a i).Shaped C.prog/\i.vars=[]/\Input.okWide C.prog (w.forCall a i) .any w.heap.size f i /\
   (((upS s k).pre enc C.prog fn b false (w.forCall a i).memory i.args/\laidMetH C.prog d (w.forCall a i).memory)/\sizedMet enc C.prog fn (upS s k) false (w.forCall a i).memory i.args)/\({}:Assume).holds C.prog (lone (Frame.enter C.prog f i.args .normal) [] (w.forCall a i)))
  (c:s.vars=[]) (F:fn.resultTypes = #[t]) (U:C.prog.underlying t=some .bool) (hl:laidOutB C.prog=true)
  (hr:fn.params.toList.all (fun t=>C.prog.readableRec t&&decide (t<C.prog.types.size))=true) (A:∀ y:List (DataW H),y.length=fn.params.toList.length->s.fn H y={ results:=[.lit (.bool true)],args:=y })
  (walk:∀ (W:World) (base:Nat) (args:List Value) (y:List (DataW H)) (p:List MemPlace),(∀ (j:Nat) t v,fn.params.toList[j]?=some t->args[j]?=some v->Value.okWide C.prog W .any base t v)->laidMetH C.prog d W->W.ShapedOpen C.prog ->
   DataW.TrodAll enc C.prog W 0 (fun _=>true) true fn.params.toList args y p->k H y=true->Does C.prog f args W (fun v _=>v = .bool true)) :
  ReturnsInHanded {} C os f .any (fun w args=>((upS s k).pre enc C.prog fn b false w args/\laidMetH C.prog d w)/\sizedMet enc C.prog fn (upS s k) false w args) (s.post enc C.prog fn false true false false):=by
 have S:∀ t∈fn.params.toList,C.prog.readableRec t=true/\t<C.prog.types.size:=fun t U=>by
  have:=List.all_eq_true.1 hr t U
  simpa using this
 refine returnsInHanded_of_calls X g z m ?_
 intro w a i _ T _ R E K
 obtain⟨_,_,_,B,D,_,_,_,_,I⟩:=R
 have e:B=fn:=Option.some.inj (D.symm.trans Q)
 subst e
 obtain⟨⟨⟨y,L,u,hw,hc,Y⟩,hx⟩,hz⟩:=E
 have V:DataW.Whole enc C.prog B.params.toList s.vars false (w.forCall a i).memory i.args.toList y L u:=hw
 have J:=DataW.Whole.of_heap (w':=w.forCall a i) (by rfl) V
 obtain⟨p,q,hA,M,_⟩:=id J
 rw[c]at M
 obtain rfl:L=[]:=by
  cases L with
  | nil=>rfl
  | cons x r=>unfold DataW.TrodVars at M;exact M.elim
 rw[List.append_nil]at Y
 have N:=walk (w.forCall a i) w.heap.size i.args.toList y p (fun j t v Z h2=>I j t v (by simpa using Z) (by simpa using h2)) (laidMetH.of_heap (by rfl) hx) T hA Y
 unfold Does at N
 rw[Array.toArray_toList]at N
 refine N.mono ?_
 rintro e W' ⟨v,O,rfl,hb,_,rfl⟩
 exact ChangeSpec.post_blind (ZwN c F U hl S A J hb.toBelow)
