/- Parts of the proof. -/
import Derived.Test.YtpipekfmecikmaaGreatDoorR23
set_option maxHeartbeats 4000000
set_option linter.all false
namespace Go.Wk
open Go Go.RowKit
theorem Zp0 (s:ByteArray)(i j:Nat):(s.extract i j).data.toList=(s.data.toList.drop i).take (j - i):=by
 rw[ByteArray.data_extract];simp[List.drop_take]
theorem Zwx {l:List UInt8}{f i:Nat}(h:f<=i)(a:i<l.length):(l.drop f).take (i+1 - f)=(l.drop f).take (i - f)++[l[i]]:=by
 rw[show i+1 - f=(i - f)+1 by omega,List.take_add_one,List.getElem?_drop,show f+(i - f)=i by omega,List.getElem?_eq_getElem a]
 rfl
end Go.Wk
namespace Go.Proofs.YtpipekfmecikmaaGreatDoor
open Go Go.RowKit Go.Wk
attribute [local irreducible] W RL Does Zaq Zai retQ Calls Pu Stp RD Qy Ay Zaj
theorem Zzf {G:Prop}(h:G:=by(apply Zau;rfl;rfl;exact b1)):G:=h
theorem Zvb {G:Prop}(h:G:=by(first|(apply Za2;rfl;rfl;decide;omega;exact hgc)|(apply Zau;rfl;rfl;exact b1)|(apply Zat;rfl;rfl;exact b2)|(apply Zao;rfl;rfl;first|exact e1|exact e2))):G:=h
theorem ZC0 {G:Prop}(h:G:=by(first|(apply Za2;rfl;rfl;omega;omega;exact hgc)|(apply Zal;rfl;rfl;first|exact e1|exact e2|exact e3|exact e4))):G:=h
theorem ZhC {G G':Prop}(k:G')(h:Hold G'->G:=by intro k9;(first|(apply RL_pu;rfl;exact ZC0)|(refine js ?_;(first|(refine Zac (fun w' _=>hcl w') ?_)|(refine Zac (fun w' _=>hcd w') ?_)))|refine walk1 ?_);exact k9.out):G:=h ⟨k⟩
set_option maxHeartbeats 1000000 in
theorem Zjs (s:ByteArray)(E:(s.size:Int)<=9223372036854775807)(w:World):Does Tryz.prog 250 [.string s] w (fun v O=>v = .bool (Zgz s.data.toList)/\O=[]):=by
 have r:s.data.toList.length=s.size:=rfl
 obtain⟨R,u⟩:∃ R,(s.data.toList.all fun c=>Zoh c.toNat)=R:=⟨_,rfl⟩
 have f:Zgz s.data.toList=((decide (1<=s.size)&&decide (s.size<=14)&&R)&&!(decide (s.data.toList.getD 0 0=46)||decide (s.data.toList.getD 0 0=45))):=by
  unfold Zgz Zb1 ZbK
  rw[<- u,r]
  have z:(fun c:UInt8 => !decide (ZbR c.toNat &&& 31=0))=fun c=>Zoh c.toNat:=funext ZrN
  rw[z]
  cases hd:s.data.toList with
  | nil=>rw[hd]at r;rw[show s.size=0 from r.symm];rfl
  | cons x l=>rfl
 refine Zaa Tryz.func250 rfl rfl rfl rfl ?_
 by_cases B:s.size<1
 ·have b1:decide ((s.size:Int)<1)=true:=decide_eq_true (by omega)
  rw[show Zgz s.data.toList=false by rw[f,decide_eq_false (show ¬ 1<=s.size by omega)];rfl]
  repeat (first|(apply RL_pu;rfl;exact Zzf)|refine walk1 ?_)
  exact rtA
 have b1:decide ((s.size:Int)<1)=false:=decide_eq_false (by omega)
 by_cases C:14<s.size
 ·have b2:decide (14<(s.size:Int))=true:=decide_eq_true (by omega)
  rw[show Zgz s.data.toList=false by rw[f,decide_eq_false (show ¬ s.size<=14 by omega),Bool.and_false];rfl]
  repeat (first|(apply RL_pu;rfl;(first|exact Zzf|(apply Zat;rfl;rfl;exact b2)))|refine walk1 ?_)
  exact rtA
 have b2:decide (14<(s.size:Int))=false:=decide_eq_false (by omega)
 obtain⟨c,hgc⟩:∃ c,s.data.toList.getD ((0:Int)).toNat 0=c:=⟨_,rfl⟩
 rw[show s.data.toList.getD 0 0=c from hgc,decide_eq_true (show 1<=s.size by omega),decide_eq_true (show s.size<=14 by omega)]at f
 have m:decide ((c.toNat:Int)=46)=decide (c=46):=by
  rw[decide_eq_decide]
  constructor
  ·intro h;exact UInt8.toNat_inj.1 (by show c.toNat=46;omega)
  ·intro h;rw[h];rfl
 have j:decide ((c.toNat:Int)=45)=decide (c=45):=by
  rw[decide_eq_decide]
  constructor
  ·intro h;exact UInt8.toNat_inj.1 (by show c.toNat=45;omega)
  ·intro h;rw[h];rfl
 obtain⟨e,e1⟩:∃ e,decide ((c.toNat:Int)=46)=e:=⟨_,rfl⟩
 obtain⟨z2,e2⟩:∃ z2,decide ((c.toNat:Int)=45)=z2:=⟨_,rfl⟩
 rw[<- m,<- j,e1,e2]at f
 cases e with
 | true =>
  rw[f,Bool.true_or,Bool.not_true,Bool.and_false]
  repeat (first|(apply RL_pu;rfl;exact Zvb)|refine walk1 ?_)
  exact rtA
 | false =>
 cases z2 with
 | true =>
  rw[f,Bool.or_true,Bool.not_true,Bool.and_false]
  repeat (first|(apply RL_pu;rfl;exact Zvb)|refine walk1 ?_)
  exact rtA
 | false =>
 rw[show Zgz s.data.toList=R by rw[f,Bool.or_false,Bool.not_false,Bool.and_true];rfl]
 repeat (first|(apply RL_pu;rfl;exact Zvb)|refine walk1 ?_)
 clear hgc f e1 e2 m j
 refine Zah [(0,.string s)] [] (fun k:Nat=>[(3,.int .i64 k)]) (fun _=>[]) (fun k=>k<=s.size/\((s.data.toList.drop k).all fun c=>Zoh c.toNat)=R) (fun k=>s.size - k) 0 SFA SOA ⟨Nat.zero_le _,u⟩ ?_
 rintro k ⟨D,i⟩
 repeat (refine walk ?_)
 refine Zaf rfl (fun t=>?_) (fun t=>?_)
 ·simp only[decide_eq_true_eq,Int.ofNat_lt]at t
  have hgc:s.data.toList.getD ((k:Int)).toNat 0=s.data.toList[k]:=Zdr (by omega)
  rw[Zag (show k<s.data.toList.length by omega),List.all_cons]at i
  generalize s.data.toList[k]=d at *
  unfold Zoh at i
  have hcl:=fun w'=>Zcs d.toNat w'
  have hcd:=fun w'=>ZhX d.toNat w'
  generalize letC d.toNat=x at *
  generalize digC d.toNat=y at *
  obtain⟨e,e1⟩:∃ e,(!decide ((d.toNat:Int)=46))=e:=⟨_,rfl⟩
  obtain⟨z2,e2⟩:∃ z2,(!decide ((d.toNat:Int)=95))=z2:=⟨_,rfl⟩
  obtain⟨z3,e3⟩:∃ z3,(!decide ((d.toNat:Int)=43))=z3:=⟨_,rfl⟩
  obtain⟨z4,e4⟩:∃ z4,(!decide ((d.toNat:Int)=45))=z4:=⟨_,rfl⟩
  rw[show decide ((d.toNat:Int)=46) = !e by rw[<- e1,Bool.not_not],show decide ((d.toNat:Int)=95) = !z2 by rw[<- e2,Bool.not_not],show decide ((d.toNat:Int)=43) = !z3 by rw[<- e3,Bool.not_not],show decide ((d.toNat:Int)=45) = !z4 by rw[<- e4,Bool.not_not]]at i
  have g:∀ q:Bool,(x||(y||(!e||(!z2||(!z3||!z4)))))=q->(q&&(s.data.toList.drop (k+1)).all fun c=>Zoh c.toNat)=R:=fun q A=>by rw[<- A];exact i
  cases x with
  | true =>
   repeat refine ZhC ?_
   exact⟨k+1,OA,⟨OA,by simpa using g true rfl⟩,SFA,SOA⟩
  | false =>
  cases y with
  | true =>
   repeat refine ZhC ?_
   exact⟨k+1,OA,⟨OA,by simpa using g true rfl⟩,SFA,SOA⟩
  | false =>
  cases e with
  | false =>
   repeat refine ZhC ?_
   exact⟨k+1,OA,⟨OA,by simpa using g true rfl⟩,SFA,SOA⟩
  | true =>
  cases z2 with
  | false =>
   repeat refine ZhC ?_
   exact⟨k+1,OA,⟨OA,by simpa using g true rfl⟩,SFA,SOA⟩
  | true =>
  cases z3 with
  | false =>
   repeat refine ZhC ?_
   exact⟨k+1,OA,⟨OA,by simpa using g true rfl⟩,SFA,SOA⟩
  | true =>
  cases z4 with
  | false =>
   repeat refine ZhC ?_
   exact⟨k+1,OA,⟨OA,by simpa using g true rfl⟩,SFA,SOA⟩
  | true =>
   have:=g false rfl
   rw[Bool.false_and]at this
   subst this
   repeat refine ZhC ?_
   exact rtA
 ·simp only[decide_eq_false_iff_not,Int.ofNat_lt]at t
  rw[List.drop_eq_nil_of_le (by omega),List.all_nil]at i
  subst i
  repeat (refine walk ?_)
  exact rtA
structure RzG where
 i:Nat
 f:Nat
theorem Zze {G:Prop}(h:G:=by(first|(apply Za2;rfl;rfl;omega;omega;exact hgc)|(apply Zao;rfl;rfl;exact b1)|(apply Zfa;rfl;rfl;rfl;omega;omega;omega;rfl))):G:=h
theorem Zzd {G:Prop}(h:G:=by(apply ZgU;rfl;rfl;omega;omega)):G:=h
theorem Zjx (s:ByteArray)(z:(s.size:Int)<=9223372036854775807)(w:World):Does Tryz.prog 193 [.string s] w (fun v O=>v = .bool (Zfb s)/\O=[]):=by
 have y:s.data.toList.length=s.size:=rfl
 have m:∀ i j,((s.extract i j).size:Int)<=9223372036854775807:=fun i j=>by rw[ByteArray.size_extract];omega
 unfold Zfb
 obtain⟨R,u⟩:∃ R,(Zel s.data.toList []).all Zgz=R:=⟨_,rfl⟩
 rw[u]
 refine Zaa Tryz.func193 rfl rfl rfl rfl ?_
 repeat (refine walk ?_)
 refine Zah [(0,.string s)] [] (fun g:RzG=>[(3,.int .i64 g.f),(4,.int .i64 g.i)]) (fun _=>[]) (fun g=>g.f<=g.i/\g.i<=s.size/\(Zel (s.data.toList.drop g.i) ((s.data.toList.drop g.f).take (g.i - g.f))).all Zgz=R) (fun g=>s.size - g.i) ⟨0,0⟩ SFA SOA ⟨Nat.le_refl _,Nat.zero_le _,u⟩ ?_
 rintro⟨i,f⟩ ⟨h1,h2,hi⟩
 dsimp only at h1 h2 hi ⊢
 repeat (refine walk ?_)
 refine Zaf rfl (fun t=>?_) (fun t=>?_)
 ·simp only[decide_eq_true_eq,Int.ofNat_lt]at t
  have hgc:s.data.toList.getD ((i:Int)).toNat 0=s.data.toList[i]:=Zdr (by omega)
  have x:=Zwx h1 (show i<s.data.toList.length by omega)
  rw[Zag (show i<s.data.toList.length by omega),Zel]at hi
  generalize s.data.toList[i]=d at *
  have q:((d.toNat:Int)=47)↔d=47:=by
   constructor
   ·intro h;exact UInt8.toNat_inj.1 (by show d.toNat=47;omega)
   ·intro h;rw[h];rfl
  by_cases r:d=47
  ·have b1:decide ((d.toNat:Int)=47)=true:=decide_eq_true (q.2 r)
   rw[if_pos r,List.all_cons]at hi
   have c:=fun w'=>Zjs (s.extract f i) (m f i) w'
   rw[Zp0]at c
   generalize Zgz ((s.data.toList.drop f).take (i - f))=pb at *
   cases pb with
   | true =>
    rw[Bool.true_and]at hi
    repeat (first|(apply RL_pu;rfl;exact Zze)|(refine js ?_;(refine Zac (fun w' _=>c w') ?_))|refine walk1 ?_)
    exact⟨⟨i+1,i+1⟩,OA,⟨OA,OA,by dsimp only;rw[Nat.sub_self,List.take_zero];exact hi⟩,SFA,SOA⟩
   | false =>
    rw[Bool.false_and]at hi
    subst hi
    repeat (first|(apply RL_pu;rfl;exact Zze)|(refine js ?_;(refine Zac (fun w' _=>c w') ?_))|refine walk1 ?_)
    exact ret_1 _ [] (.tmp rfl) .nil ⟨by rw[Bool.and_false],rfl⟩
  ·have b1:decide ((d.toNat:Int)=47)=false:=decide_eq_false (fun e=>r (q.1 e))
   rw[if_neg r,<- x]at hi
   repeat (first|(apply RL_pu;rfl;(first|(apply Za2;rfl;rfl;omega;omega;exact hgc)|(apply Zao;rfl;rfl;exact b1)))|refine walk1 ?_)
   exact⟨⟨i+1,f⟩,OA,⟨OA,OA,hi⟩,SFA,SOA⟩
 ·simp only[decide_eq_false_iff_not,Int.ofNat_lt]at t
  obtain rfl:i=s.size:=by omega
  rw[List.drop_eq_nil_of_le (by omega),Zel,List.all_cons,List.all_nil,Bool.and_true]at hi
  have c:=fun w'=>Zjs (s.extract f s.size) (m f s.size) w'
  rw[Zp0,hi]at c
  cases R with
  | true =>
   rw[Bool.and_true,show decide (s.size<=60)=decide ((s.size:Int)<=60) by rw[decide_eq_decide];omega]
   repeat (first|(apply RL_pu;rfl;exact Zzd)|(refine js ?_;(refine Zac (fun w' _=>c w') ?_))|refine walk1 ?_)
   exact rtA
  | false =>
   rw[Bool.and_false]
   repeat (first|(apply RL_pu;rfl;exact Zzd)|(refine js ?_;(refine Zac (fun w' _=>c w') ?_))|refine walk1 ?_)
   exact rtA
def ixN:Option Nat->Int
 | some i=>i
 | none => -1
theorem Zot (o:Option Nat):decide ((0:Int)<=ixN o)=o.isSome:=by
 cases o with
 | none=>rfl
 | some i=>exact decide_eq_true (show(0:Int)<=(i:Int) by omega)
def ZeK (s:DSource):Nat->ByteArray->Nat × Int
 | 0,_=>(0,11)
 | f+1,x =>
  match ZaI x s.zones 0 with
  | some i=>(i,0)
  | none=>match ZaN x s.links 0 with
   | none=>(0,9)
   | some i=>ZeK s f ((s.links[i]?).map (·.target) |>.getD ByteArray.empty)
theorem ZmO {z:DZone}:∀ (l:List DZone) (k i:Nat),l[i]?=some z->∃ j,ZaI z.name l k=some j/\j<=k+i
 | [],_,i,h=>by simp at h
 | y::l,k,i,h=>by
  rw[ZaI]
  by_cases a:y.name=z.name
  ·rw[if_pos a];exact⟨k,rfl,Nat.le_add_right _ _⟩
  ·rw[if_neg a]
   cases i with
   | zero=>simp only[List.getElem?_cons_zero,Option.some.injEq]at h;rw[h]at a;exact absurd rfl a
   | succ i =>
    obtain⟨j,b,c⟩:=ZmO l (k+1) i (by simpa using h)
    exact⟨j,b,by omega⟩
theorem ZmP {z:DLink}:∀ (l:List DLink) (k i:Nat),l[i]?=some z->∃ j,ZaN z.name l k=some j/\j<=k+i
 | [],_,i,h=>by simp at h
 | y::l,k,i,h=>by
  rw[ZaN]
  by_cases a:y.name=z.name
  ·rw[if_pos a];exact⟨k,rfl,Nat.le_add_right _ _⟩
  ·rw[if_neg a]
   cases i with
   | zero=>simp only[List.getElem?_cons_zero,Option.some.injEq]at h;rw[h]at a;exact absurd rfl a
   | succ i =>
    obtain⟨j,b,c⟩:=ZmP l (k+1) i (by simpa using h)
    exact⟨j,b,by omega⟩
theorem Zgs (Ar Az Al As:Option Addr)(g i f cs:Nat)(a:DSource)(x:ByteArray)(w:World)(r:Zak w Ar Az Al As g i f cs a)(y:a.zones.length<=1000000) :
  Does Tryz.prog 100 [srcV Ar Az Al As g i f cs a,.string x] w (fun v O=>v = .int .i64 (ixN (ZaI x a.zones 0))/\O=[]):=by
 obtain⟨R,m⟩:∃ R,ZaI x a.zones 0=R:=⟨_,rfl⟩
 rw[m]
 refine Zaa Tryz.func100 rfl rfl rfl rfl ?_
 repeat (first|(refine js ?_;(refine bx ?_;intro d))|refine walk ?_)
 refine Zah [(1,.string x),(2,.pointer (some ⟨d,0,none⟩))] [.blk d [.slice Ar a.rules.length g,.slice Az a.zones.length i,.slice Al a.links.length f,.slice As a.shifts.length cs] 27] (fun k:Nat=>[(5,.int .i64 k)]) (fun _=>[]) (fun k=>k<=a.zones.length/\ZaI x (a.zones.drop k) k=R) (fun k=>a.zones.length - k) 0 SFA SOA ⟨Nat.zero_le _,m⟩ ?_
 clear m
 rintro k ⟨u,c⟩
 repeat (first|(refine js ?_;(refine bx ?_;intro d))|refine walk ?_)
 refine Zaf rfl (fun e=>?_) (fun e=>?_)
 ·simp only[decide_eq_true_eq,Int.ofNat_lt]at e
  obtain⟨hna,q,⟨Ae,t,s,rfl⟩,hca⟩:=r.z k _ (List.getElem?_eq_getElem e)
  rw[Zag e,ZaI]at c
  generalize a.zones[k]=z at *
  repeat (first|(apply RL_pu;rfl;exact PuI)|refine walk1 ?_)
  refine Zaf rfl (fun j=>?_) (fun j=>?_)
  ·rw[if_pos (of_decide_eq_true j)]at c
   subst c
   repeat (first|(refine js ?_;(refine bx ?_;intro d))|refine walk ?_)
   exact rtA
  ·rw[if_neg (of_decide_eq_false j)]at c
   repeat (first|(refine js ?_;(refine bx ?_;intro d))|refine walk ?_)
   exact⟨k+1,OA,⟨OA,c⟩,SFA,SOA⟩
 ·simp only[decide_eq_false_iff_not,Int.ofNat_lt]at e
  rw[List.drop_eq_nil_of_le (by omega),ZaI]at c
  subst c
  repeat (first|(refine js ?_;(refine bx ?_;intro d))|refine walk ?_)
  exact rtA
theorem Zgu (Ar Az Al As:Option Addr)(g i f cs:Nat)(a:DSource)(x:ByteArray)(w:World)(q:Zak w Ar Az Al As g i f cs a)(s:a.links.length<=1000000) :
  Does Tryz.prog 101 [srcV Ar Az Al As g i f cs a,.string x] w (fun v O=>v = .int .i64 (ixN (ZaN x a.links 0))/\O=[]):=by
 obtain⟨R,m⟩:∃ R,ZaN x a.links 0=R:=⟨_,rfl⟩
 rw[m]
 refine Zaa Tryz.func101 rfl rfl rfl rfl ?_
 repeat (first|(refine js ?_;(refine bx ?_;intro d))|refine walk ?_)
 refine Zah [(1,.string x),(2,.pointer (some ⟨d,0,none⟩))] [.blk d [.slice Ar a.rules.length g,.slice Az a.zones.length i,.slice Al a.links.length f,.slice As a.shifts.length cs] 27] (fun k:Nat=>[(5,.int .i64 k)]) (fun _=>[]) (fun k=>k<=a.links.length/\ZaN x (a.links.drop k) k=R) (fun k=>a.links.length - k) 0 SFA SOA ⟨Nat.zero_le _,m⟩ ?_
 clear m
 rintro k ⟨r,c⟩
 repeat (first|(refine js ?_;(refine bx ?_;intro d))|refine walk ?_)
 refine Zaf rfl (fun e=>?_) (fun e=>?_)
 ·simp only[decide_eq_true_eq,Int.ofNat_lt]at e
  obtain⟨hna,hca⟩:=q.l.rd k _ (List.getElem?_eq_getElem e)
  rw[Zag e,ZaN]at c
  generalize a.links[k]=z at *
  repeat (first|(apply RL_pu;rfl;exact PuI)|refine walk1 ?_)
  refine Zaf rfl (fun j=>?_) (fun j=>?_)
  ·rw[if_pos (of_decide_eq_true j)]at c
   subst c
   repeat (first|(refine js ?_;(refine bx ?_;intro d))|refine walk ?_)
   exact rtA
  ·rw[if_neg (of_decide_eq_false j)]at c
   repeat (first|(refine js ?_;(refine bx ?_;intro d))|refine walk ?_)
   exact⟨k+1,OA,⟨OA,c⟩,SFA,SOA⟩
 ·simp only[decide_eq_false_iff_not,Int.ofNat_lt]at e
  rw[List.drop_eq_nil_of_le (by omega),ZaN]at c
  subst c
  repeat (first|(refine js ?_;(refine bx ?_;intro d))|refine walk ?_)
  exact rtA
theorem Zy7 {G:Prop}(h:G:=by(apply ZbF;rfl;rfl;first|exact b1|exact b2)):G:=h
theorem Zn5 (Ar Az Al As:Option Addr)(c d b cs:Nat)(a:DSource)(x:ByteArray)(w:World)(g:Zak w Ar Az Al As c d b cs a)(p:a.zones.length<=1000000)(e:a.links.length<=1000000) :
  Does Tryz.prog 194 [srcV Ar Az Al As c d b cs a,.string x] w (fun v O=>v = .bool ((ZaI x a.zones 0).isSome||(ZaN x a.links 0).isSome)/\O=[]):=by
 have j:=fun w' (f:Bel w.heap.size w w')=>Zgs Ar Az Al As c d b cs a x w' (g.up f) p
 have i:=fun w' (f:Bel w.heap.size w w')=>Zgu Ar Az Al As c d b cs a x w' (g.up f) e
 have b1:=Zot (ZaI x a.zones 0)
 have b2:=Zot (ZaN x a.links 0)
 generalize ZaI x a.zones 0=o1 at *
 generalize ZaN x a.links 0=o2 at *
 generalize ixN o1=n1 at *
 generalize ixN o2=n2 at *
 refine Zaa Tryz.func194 rfl rfl rfl rfl ?_
 generalize o1.isSome=z1 at *
 generalize o2.isSome=z2 at *
 cases z1 with
 | true =>
  repeat (first|(apply RL_pu;rfl;exact Zy7)|(refine js ?_;(first|(refine Zac j ?_)|(refine Zac i ?_)|(refine bx ?_;intro m)))|refine walk1 ?_)
  exact rtA
 | false =>
  repeat (first|(apply RL_pu;rfl;exact Zy7)|(refine js ?_;(first|(refine Zac j ?_)|(refine Zac i ?_)|(refine bx ?_;intro m)))|refine walk1 ?_)
  exact rtA
structure ZDs where
 k:Nat
 x:ByteArray
theorem Zjy (Ar Az Al As:Option Addr)(j m f cs:Nat)(a:DSource)(x:ByteArray)(w:World)(s:Zak w Ar Az Al As j m f cs a)(F:a.zones.length<=1000000)(B:a.links.length<=1000000) :
  Does Tryz.prog 53 [srcV Ar Az Al As j m f cs a,.string x] w (fun v O=>v = .tuple #[.int .i64 (ZeK a (a.links.length+1) x).1,.int .i64 (ZeK a (a.links.length+1) x).2]/\O=[]):=by
 obtain⟨R,t⟩:∃ R,ZeK a (a.links.length+1) x=R:=⟨_,rfl⟩
 rw[t]
 have D:=fun x w' (C:Bel w.heap.size w w')=>Zgs Ar Az Al As j m f cs a x w' (s.up C) F
 have y:=fun x w' (C:Bel w.heap.size w w')=>Zgu Ar Az Al As j m f cs a x w' (s.up C) B
 refine Zaa Tryz.func53 rfl rfl rfl rfl ?_
 repeat (first|(refine js ?_;(refine bx ?_;intro q))|refine walk ?_)
 refine Zah [(2,.pointer (some ⟨q,0,none⟩))] [.blk q [.slice Ar a.rules.length j,.slice Az a.zones.length m,.slice Al a.links.length f,.slice As a.shifts.length cs] 27] (fun g:ZDs=>[(1,.string g.x),(6,.int .i64 g.k)]) (fun _=>[]) (fun g=>g.k<=a.links.length+1/\ZeK a (a.links.length+1 - g.k) g.x=R) (fun g=>a.links.length+1 - g.k) ⟨0,x⟩ SFA SOA ⟨Nat.zero_le _,t⟩ ?_
 clear t
 rintro⟨k,x⟩ ⟨hk,hi⟩
 dsimp only at hk hi ⊢
 repeat (first|(refine js ?_;(refine bx ?_;intro q))|refine walk ?_)
 refine Zaf rfl (fun u=>?_) (fun u=>?_)
 ·simp only[decide_eq_true_eq,Int.ofNat_le]at u
  rw[show a.links.length+1 - k=(a.links.length - k)+1 by omega,ZeK]at hi
  have d:=D x
  have e:=y x
  have A:=fun i=>Zit x a.links 0 i
  cases h1:ZaI x a.zones 0 with
  | some i =>
   rw[h1]at hi d
   dsimp only at hi
   subst hi
   have r:decide ((0:Int)<=(i:Int))=true:=decide_eq_true (by omega)
   simp only[ixN]at d
   repeat (first|(apply RL_pu;rfl;(apply ZbF;rfl;rfl;exact r))|(refine js ?_;((refine Zac d ?_)))|refine walk1 ?_)
   exact rtB
  | none =>
   rw[h1]at hi d
   dsimp only at hi
   simp only[ixN]at d
   cases h2:ZaN x a.links 0 with
   | none =>
    rw[h2]at hi e
    dsimp only at hi
    subst hi
    simp only[ixN]at e
    repeat (first|(refine js ?_;(first|(refine Zac d ?_)|(refine Zac e ?_)))|refine walk ?_)
    exact rtB
   | some i =>
    have E:=(A i h2).2
    rw[h2]at hi e
    dsimp only at hi
    simp only[ixN]at e
    have r:decide ((i:Int)<0)=false:=decide_eq_false (by omega)
    have c:i<a.links.length:=by omega
    obtain⟨hna,hca⟩:=s.l.rd i _ (List.getElem?_eq_getElem c)
    rw[List.getElem?_eq_getElem c,Option.map_some,Option.getD_some]at hi
    generalize a.links[i]=z at *
    repeat (first|(apply RL_pu;rfl;(first|exact PuI|(apply Zau;rfl;rfl;exact r)))|(refine js ?_;(first|(refine Zac d ?_)|(refine Zac e ?_)))|refine walk1 ?_)
    exact⟨⟨k+1,z.target⟩,OA,⟨OA,by dsimp only;rw[show a.links.length+1 - (k+1)=a.links.length - k by omega];exact hi⟩,SFA,SOA⟩
 ·simp only[decide_eq_false_iff_not,Int.ofNat_le]at u
  rw[show a.links.length+1 - k=0 by omega,ZeK]at hi
  subst hi
  repeat (first|(refine js ?_;(refine bx ?_;intro q))|refine walk ?_)
  exact rtB
def Zmv:List DZone->Nat->Option Nat
 | [],_=>none
 | z::l,k=>if 60<z.eras.length then some k else Zmv l (k+1)
theorem ZpT:∀ (l:List DZone) (k:Nat),Zmv l k=(l.findIdx? fun z=>decide (60<z.eras.length)).map (·+k)
 | [],_=>rfl
 | z::l,k=>by
  rw[Zmv,List.findIdx?_cons]
  by_cases h:60<z.eras.length
  ·rw[if_pos h,decide_eq_true h];simp
  ·rw[if_neg h,decide_eq_false h,ZpT l (k+1)]
   simp only[Bool.false_eq_true,if_false,Option.map_map]
   congr 1
   funext x
   simp only[Function.comp]
   omega
theorem Zks {G:Prop}(h:G:=by(apply Zat;rfl;rfl;first|exact b1|exact b2|exact b4|exact b5)):G:=h
theorem Zy1 {G:Prop}(h:G:=by(first|exact PuI|(apply Zat;rfl;rfl;exact b3))):G:=h
theorem Zn1 (Ar Az Al As:Option Addr)(j m i cs:Nat)(a:DSource)(w:World)(A:Zak w Ar Az Al As j m i cs a)(C:ZcA a) :
  Does Tryz.prog 125 [srcV Ar Az Al As j m i cs a] w (fun v O=>v=ptV (Zda a)/\O=[]):=by
 have D:=C.nz
 unfold Zda
 rw[show(a.zones.findIdx? fun z=>decide (60<z.eras.length))=Zmv a.zones 0 by rw[ZpT];simp]
 obtain⟨R,q⟩:∃ R,Zmv a.zones 0=R:=⟨_,rfl⟩
 rw[q]
 refine Zaa Tryz.func125 rfl rfl rfl rfl ?_
 by_cases r:2000<a.rules.length
 ·have b1:decide (2000<(a.rules.length:Int))=true:=decide_eq_true (by omega)
  rw[if_pos r]
  simp only[ptV,plV,Zap.enc]
  repeat (first|(apply RL_pu;rfl;exact Zks)|(refine js ?_;(refine bx ?_;intro c))|refine walk1 ?_)
  exact rtC
 have b1:decide (2000<(a.rules.length:Int))=false:=decide_eq_false (by omega)
 rw[if_neg r]
 by_cases s:500<a.zones.length
 ·have b2:decide (500<(a.zones.length:Int))=true:=decide_eq_true (by omega)
  rw[if_pos s]
  simp only[ptV,plV,Zap.enc]
  repeat (first|(apply RL_pu;rfl;exact Zks)|(refine js ?_;(refine bx ?_;intro c))|refine walk1 ?_)
  exact rtC
 have b2:decide (500<(a.zones.length:Int))=false:=decide_eq_false (by omega)
 rw[if_neg s]
 repeat (first|(apply RL_pu;rfl;exact Zks)|(refine js ?_;(refine bx ?_;intro c))|refine walk1 ?_)
 rename_i bs
 obtain⟨e,f⟩:∃ b2,c=b2:=⟨_,rfl⟩
 rw[f]
 clear f c
 refine Zah [(1,.pointer (some ⟨bs,0,none⟩)),(2,.pointer (some ⟨e,0,none⟩))] [.blk e [.int .i64 0,.int .i64 0,.int .i64 0] 138,.blk bs [.slice Ar a.rules.length j,.slice Az a.zones.length m,.slice Al a.links.length i,.slice As a.shifts.length cs] 27]
  (fun k:Nat=>[(4,.int .i64 k)]) (fun _=>[]) (fun k=>k<=a.zones.length/\Zmv (a.zones.drop k) k=R) (fun k=>a.zones.length - k) 0 SFA SOA ⟨Nat.zero_le _,q⟩ ?_
 clear q
 rintro k ⟨F,d⟩
 repeat (first|(refine js ?_;(refine bx ?_;intro c))|refine walk ?_)
 refine Zaf rfl (fun g=>?_) (fun g=>?_)
 ·simp only[decide_eq_true_eq,Int.ofNat_lt]at g
  obtain⟨hna,y,⟨Ae,E,B,rfl⟩,hca⟩:=A.z k _ (List.getElem?_eq_getElem g)
  rw[Zag g,Zmv]at d
  generalize a.zones[k]=z at *
  by_cases t:60<z.eras.length
  ·have b3:decide (60<(z.eras.length:Int))=true:=decide_eq_true (by omega)
   rw[if_pos t]at d
   subst d
   simp only[ptV,plV,Zap.enc]
   repeat (first|(apply RL_pu;rfl;exact Zy1)|(refine js ?_;(refine bx ?_;intro c))|refine walk1 ?_)
   exact rtC
  ·have b3:decide (60<(z.eras.length:Int))=false:=decide_eq_false (by omega)
   rw[if_neg t]at d
   repeat (first|(apply RL_pu;rfl;exact Zy1)|(refine js ?_;(refine bx ?_;intro c))|refine walk1 ?_)
   exact⟨k+1,OA,⟨OA,d⟩,SFA,SOA⟩
 simp only[decide_eq_false_iff_not,Int.ofNat_lt]at g
 rw[List.drop_eq_nil_of_le (by omega),Zmv]at d
 subst d
 dsimp only
 by_cases u:1000<a.links.length
 ·have b4:decide (1000<(a.links.length:Int))=true:=decide_eq_true (by omega)
  rw[if_pos u]
  simp only[ptV,plV,Zap.enc]
  repeat (first|(apply RL_pu;rfl;exact Zks)|(refine js ?_;(refine bx ?_;intro c))|refine walk1 ?_)
  exact rtC
 have b4:decide (1000<(a.links.length:Int))=false:=decide_eq_false (by omega)
 rw[if_neg u]
 by_cases x:2000<a.shifts.length
 ·have b5:decide (2000<(a.shifts.length:Int))=true:=decide_eq_true (by omega)
  rw[if_pos x]
  simp only[ptV,plV,Zap.enc]
  repeat (first|(apply RL_pu;rfl;exact Zks)|(refine js ?_;(refine bx ?_;intro c))|refine walk1 ?_)
  exact rtC
 have b5:decide (2000<(a.shifts.length:Int))=false:=decide_eq_false (by omega)
 rw[if_neg x]
 simp only[ptV,plV,Zap.enc]
 repeat (first|(apply RL_pu;rfl;exact Zks)|(refine js ?_;(refine bx ?_;intro c))|refine walk1 ?_)
 exact rtC
structure RuG where
 k:Nat
 i:Nat
theorem Zu3 {G:Prop}(h:G:=by(first|exact PuI|(apply ZcL;rfl;rfl;exact b1))):G:=h
theorem ZlW (Ar Az Al As:Option Addr)(t u s cs:Nat)(a:DSource)(x:ByteArray)(i:Nat)(w:World)(A:Zak w Ar Az Al As t u s cs a)(B:a.rules.length<=1000000)(c:i<=1000000) :
  Does Tryz.prog 189 [srcV Ar Az Al As t u s cs a,.string x,.int .i64 i] w (fun v O=>v=plV (Zb5 x a.rules i 0)/\O=[]):=by
 obtain⟨R,y⟩:∃ R,Zb5 x a.rules i 0=R:=⟨_,rfl⟩
 rw[y]
 refine Zaa Tryz.func189 rfl rfl rfl rfl ?_
 repeat (first|(refine js ?_;(refine bx ?_;intro d))|refine walk ?_)
 rename_i bs
 obtain⟨m,e⟩:∃ m,d=m:=⟨_,rfl⟩
 rw[e]
 clear e d
 refine Zah [(1,.string x),(3,.pointer (some ⟨bs,0,none⟩)),(6,.pointer (some ⟨m,0,none⟩))] [.blk m [.int .i64 0,.int .i64 0,.int .i64 0] 138,.blk bs [.slice Ar a.rules.length t,.slice Az a.zones.length u,.slice Al a.links.length s,.slice As a.shifts.length cs] 27]
  (fun g:RuG=>[(2,.int .i64 g.i),(7,.int .i64 g.k)]) (fun _=>[]) (fun g=>g.k<=a.rules.length/\g.i<=1000000/\Zb5 x (a.rules.drop g.k) g.i g.k=R) (fun g=>a.rules.length - g.k) ⟨0,i⟩ SFA SOA ⟨Nat.zero_le _,c,y⟩ ?_
 clear y
 rintro⟨k,j⟩ ⟨hk,hj,c⟩
 dsimp only at hk hj c ⊢
 repeat (first|(refine js ?_;(refine bx ?_;intro d))|refine walk ?_)
 refine Zaf rfl (fun f=>?_) (fun f=>?_)
 ·simp only[decide_eq_true_eq,Int.ofNat_lt]at f
  obtain⟨hna,hca⟩:=A.r.rd k _ (List.getElem?_eq_getElem f)
  rw[Zag f,ZhO]at c
  generalize a.rules[k]=r at *
  simp only[DRule.enc]at hca
  by_cases q:r.name=x
  ·have b1:(!decide (r.name=x))=false:=by rw[decide_eq_true q];rfl
   rw[if_pos q]at c
   cases j with
   | zero =>
    dsimp only at c
    subst c
    simp only[plV,Zap.enc]
    repeat (first|(apply RL_pu;rfl;exact Zu3)|(refine js ?_;(refine bx ?_;intro d))|refine walk1 ?_)
    exact ret_1 _ [] (.cellB rfl (by repeat' constructor) rfl rfl) .nil ⟨rfl,rfl⟩
   | succ j =>
    dsimp only at c
    have z:decide (((j+1:Nat):Int)=0)=false:=decide_eq_false (by omega)
    repeat (first|(apply RL_pu;rfl;(first|exact Zu3|(apply Zao;rfl;rfl;exact z)))|refine walk1 ?_)
    refine⟨⟨k+1,j⟩,OA,⟨OA,OA,c⟩,?_,SOA⟩
    rw[show((j+1:Nat):Int) - 1=(j:Int) by omega]
    exact SFA
  ·have b1:(!decide (r.name=x))=true:=by rw[decide_eq_false q];rfl
   rw[if_neg q]at c
   repeat (first|(apply RL_pu;rfl;exact Zu3)|(refine js ?_;(refine bx ?_;intro d))|refine walk1 ?_)
   exact⟨⟨k+1,j⟩,OA,⟨OA,hj,c⟩,SFA,SOA⟩
 simp only[decide_eq_false_iff_not,Int.ofNat_lt]at f
 rw[List.drop_eq_nil_of_le (by omega),Zjq]at c
 subst c
 simp only[plV,Zap.enc]
 repeat (first|(refine js ?_;(refine bx ?_;intro d))|refine walk ?_)
 exact ret_1 _ [] (.cellB rfl (by repeat' constructor) rfl rfl) .nil ⟨rfl,rfl⟩
theorem Zu2 {G:Prop}(h:G:=by(first|exact PuI|(apply Zao;rfl;rfl;exact hb))):G:=h
theorem Zup {G:Prop}(h:G:=by first|(apply Qy_y;rfl;exact Zu2)|exact QyA):G:=h
theorem Zqs {G:Prop}(h:G:=by repeat (first|exact QF.nil|(apply QF.mk;rfl;rfl;decide +kernel;exact Zup))):G:=h
theorem Zu1 {G:Prop}(h:G:=by(first|exact PuI|(apply Zau;rfl;rfl;exact bj)|(apply Zcc;rfl;rfl;exact by1))):G:=h
theorem ZxV {G:Prop}(h:G:=by first|(apply Qy_y;rfl;exact Zu1)|exact QyA):G:=h
theorem ZyY {G:Prop}(h:G:=by(apply Zau;rfl;rfl;exact bj)):G:=h
theorem Zw9 {G G':Prop}(k:G')(h:Hold G'->G:=by intro k9;(first|(apply RL_pu;rfl;exact ZyY)|refine walk1 ?_|(refine jg ?_;(try intro F);(first|(refine ZaJ (fun w' hw hO=>hot A3 c3 w' (ZaO DRule.len (hO.of (A := .row (.slice A3 R.length c3) 68 11 R.length (R.flatMap DRule.enc)) (by repeat' constructor)))) ?_)|(refine ZaJ (fun w' hw hO=>hle A3 c3 w' (ZaO DRule.len (hO.of (A := .row (.slice A3 R.length c3) 68 11 R.length (R.flatMap DRule.enc)) (by repeat' constructor)))) ?_));first|refine⟨_,EndsA,QFRfS2,?_⟩|refine fin ?_));exact k9.out):G:=h ⟨k⟩
theorem ZCM {G:Prop}(h:G:=by(first|exact ZyY|(apply Zal;rfl;rfl;exact hb2))):G:=h
set_option maxHeartbeats 1000000 in
theorem ZlT (Ar Az Al As:Option Addr)(u z t cs:Nat)(a:DSource)(w:World)(J:Zak w Ar Az Al As u z t cs a)(W:ZcA a) :
  Does Tryz.prog 127 [srcV Ar Az Al As u z t cs a] w (fun v O=>v=ptV (ZaZ a a.shifts [] 0)/\O=[]):=by
 have Z:=W.nr
 have aa:=W.ns
 have X:=J.s.le
 obtain⟨g,e⟩:∃ g,ZaZ a a.shifts [] 0=g:=⟨_,rfl⟩
 rw[e]
 refine Zaa Tryz.func127 rfl rfl rfl rfl ?_
 repeat (first|refine walk ?_|(refine jn ?_;(try intro F);((refine bx ?_;intro f));refine fin ?_))
 rename_i I
 obtain⟨q,hb2⟩:∃ q,f=q:=⟨_,rfl⟩
 rw[hb2]
 clear hb2 f
 refine Zah [(1,.pointer (some ⟨I,0,none⟩)),(2,.pointer (some ⟨q,0,none⟩))] [.blk q [.int .i64 0,.int .i64 0,.int .i64 0] 138,.blk I [.slice Ar a.rules.length u,.slice Az a.zones.length z,.slice Al a.links.length t,.slice As a.shifts.length cs] 27]
  (fun k:Nat=>[(4,.int .i64 k)]) (fun _=>[]) (fun k=>k<=a.shifts.length/\ZaZ a (a.shifts.drop k) (a.shifts.take k) k=g) (fun k=>a.shifts.length - k) 0 SFA SOA ⟨Nat.zero_le _,e⟩ ?_
 clear e
 rintro k ⟨hk,c⟩
 repeat (first|refine walk ?_|(refine jn ?_;(try intro F);((refine bx ?_;intro f));refine fin ?_))
 refine Zaf rfl (fun r=>?_) (fun r=>?_)
 ·simp only[decide_eq_true_eq,Int.ofNat_lt]at r
  obtain⟨hna,hca⟩:=J.s.rd k _ (List.getElem?_eq_getElem r)
  have U:=List.take_append_getElem r
  rw[Zag r,ZaZ]at c
  rw[U]at c
  generalize a.shifts[k]=x at *
  have E:=fun w' (hw:Bel w.heap.size w w')=>ZkM Ar Az Al As u z t cs a x w' (J.up hw) Z
  have hot:=fun A3 c3 w' h=>ZhR A3 c3 (ofB a.rules x) w' h
  have hle:=fun A3 c3 w' h=>Zch A3 c3 (ofB a.rules x) w' h
  generalize ofB a.rules x=R at *
  generalize ZbV R=od at *
  obtain⟨ox,ob⟩:=od
  dsimp only at c hot
  by_cases K:R=[]
  ·rw[if_pos K]at c
   subst c
   have hb:decide ((R.length:Int)=0)=true:=by rw[K];rfl
   have hnb:=hna
   have hcb:=hca
   simp only[ptV,plV,Zap.enc]
   repeat (first|(apply RL_pu;rfl;exact Zu2)|(apply RD_Q;rfl;rfl;decide +kernel;rfl;rfl;exact Zup)|refine walk1 ?_|(refine jg ?_;(try intro F);(first|(apply Zad (h:=fun w' hw _=>E w' hw);rfl;rintro v O' ⟨A3,c3,rfl,rfl⟩)|(refine bx ?_;intro f));first|refine⟨_,EndsA,Zqs,?_⟩|refine fin ?_)|(refine jn ?_;(try intro F);(first|(refine bx ?_;intro f)|(apply Zam;exact PuA));refine⟨_,EndsA,Zqs,?_⟩))
   exact rtC
  rw[if_neg K]at c
  have hb:decide ((R.length:Int)=0)=false:=decide_eq_false (fun h=>K (List.eq_nil_of_length_eq_zero (by omega)))
  obtain⟨m,T⟩:∃ m,memB x (a.shifts.take k)=m:=⟨_,rfl⟩
  rw[T]at c
  have ab:(a.shifts.take k).length=k:=by rw[List.length_take];omega
  have N:∀ j,j<k->(a.shifts.take k)[j]?=a.shifts[j]?:=fun j Y=>by rw[List.getElem?_take,if_pos Y]
  generalize a.shifts.take k=L at *
  have hnb:=hna
  have hcb:=hca
  repeat (first|(apply RL_pu;rfl;exact Zu2)|(apply RD_Q;rfl;rfl;decide +kernel;rfl;rfl;exact Zup)|refine walk1 ?_|(refine jg ?_;(try intro F);(first|(apply Zad (h:=fun w' hw _=>E w' hw);rfl;rintro v O' ⟨A3,c3,rfl,rfl⟩)|(refine bx ?_;intro f));first|refine⟨_,EndsA,Zqs,?_⟩|refine fin ?_)|(refine jn ?_;(try intro F);(first|(refine bx ?_;intro f)|(apply Zam;exact PuA));refine⟨_,EndsA,Zqs,?_⟩))
  generalize f=b5
  refine Zah [(1,.pointer (some ⟨I,0,none⟩)),(2,.pointer (some ⟨q,0,none⟩)),(4,.int .i64 k),(5,.pointer (some ⟨b5,0,none⟩)),(6,.slice A3 R.length c3)] [.blk b5 [.int .i64 4,.int .i64 k,.int .i64 0] 138,.row (.slice A3 R.length c3) 68 11 R.length (R.flatMap DRule.enc),.blk q [.int .i64 0,.int .i64 0,.int .i64 0] 138,.blk I [.slice Ar a.rules.length u,.slice Az a.zones.length z,.slice Al a.links.length t,.slice As a.shifts.length cs] 27]
   (fun j:Nat=>[(7,.int .i64 j)]) (fun _=>[]) (fun j=>j<=k/\memB x (L.drop j)=m) (fun j=>k - j) 0 SFA SOA ⟨Nat.zero_le _,T⟩ ?_
  clear T
  rintro j ⟨Y,d⟩
  by_cases Q:j<k
  ·have bj:decide ((j:Int)<(k:Int))=true:=decide_eq_true (by omega)
   clear hnb hcb
   obtain⟨hnb,hcb⟩:=J.s.rd j _ (List.getElem?_eq_getElem (show j<a.shifts.length by omega))
   have M:=N j Q
   have D:j<L.length:=by omega
   rw[List.getElem?_eq_getElem D,List.getElem?_eq_getElem (show j<a.shifts.length by omega)]at M
   simp only[Option.some.injEq]at M
   rw[Zag D,Zia,M]at d
   generalize a.shifts[j]=y at *
   by_cases H:y=x
   ·have by1:decide (y=x)=true:=decide_eq_true H
    rw[by1,Bool.true_or]at d
    subst d
    rw[if_pos rfl]at c
    subst c
    simp only[ptV,plV,Zap.enc]
    repeat (first|(apply RL_pu;rfl;exact Zu1)|(apply RD_Q;rfl;rfl;decide +kernel;rfl;rfl;exact ZxV)|refine walk1 ?_)
    exact rtC
   ·have by1:decide (y=x)=false:=decide_eq_false H
    rw[by1,Bool.false_or]at d
    repeat (first|(apply RL_pu;rfl;exact Zu1)|(apply RD_Q;rfl;rfl;decide +kernel;rfl;rfl;exact ZxV)|refine walk1 ?_)
    exact⟨j+1,OA,⟨OA,d⟩,SFA,SOA⟩
  ·have bj:decide ((j:Int)<(k:Int))=false:=decide_eq_false (by omega)
   rw[List.drop_eq_nil_of_le (by omega)]at d
   rw[show memB x []=false from rfl]at d
   subst d
   rw[if_neg (by decide)]at c
   generalize Zae R=lt at *
   by_cases S:lt=0
   ·subst S
    cases ob with
    | false =>
     rw[if_pos (.inr rfl)]at c
     subst c
     simp only[ptV,plV,Zap.enc]
     repeat (refine Zw9 ?_)
     exact rtC
    | true =>
     rw[if_neg (by rintro(h|h);exact h rfl;cases h)]at c
     repeat (refine Zw9 ?_)
     exact⟨k+1,OA,⟨OA,c⟩,SFA,SOA⟩
   ·rw[if_pos (.inl S)]at c
    subst c
    have hb2:(!decide (lt=0))=true:=by rw[decide_eq_false S];rfl
    simp only[ptV,plV,Zap.enc]
    repeat (first|(apply RL_pu;rfl;exact ZCM)|refine walk1 ?_|(refine jg ?_;(try intro F);(first|(refine ZaJ (fun w' hw hO=>hot A3 c3 w' (ZaO DRule.len (hO.of (A := .row (.slice A3 R.length c3) 68 11 R.length (R.flatMap DRule.enc)) (by repeat' constructor)))) ?_)|(refine ZaJ (fun w' hw hO=>hle A3 c3 w' (ZaO DRule.len (hO.of (A := .row (.slice A3 R.length c3) 68 11 R.length (R.flatMap DRule.enc)) (by repeat' constructor)))) ?_));first|refine⟨_,EndsA,QFRfS3,?_⟩|refine fin ?_))
    exact rtC
 ·simp only[decide_eq_false_iff_not,Int.ofNat_lt]at r
  rw[List.drop_eq_nil_of_le (by omega),ZaZ]at c
  subst c
  repeat (first|refine walk ?_|(refine jn ?_;(try intro F);((refine bx ?_;intro f));refine fin ?_))
  exact rtC
def RapS:Prop:=∀ (A:Option Addr) (c:Nat) (l:List DRule) (w:World),RdSl w A c DRule.enc 11 l->l.length<=1000000->(Zcw l).2=0->Does Tryz.prog 191 [.slice A l.length c] w (fun v O=>v=apV (Zeh l)/\O=[])
theorem ZnA {G:Prop}(h:G:=by(first|(apply ZaF;rfl;rfl;omega;omega;(intro w' _ hO;exact(Za9 (hO.of (A := .row (.slice An N.length cn) 9 1 N.length (N.flatMap ZaR)) (by repeat' constructor)) hg1).1))|(apply ZcM;rfl;(focus repeat' constructor);exact hg1))):G:=h
theorem Zqj {G:Prop}(h:G:=by first|(apply Qy_y;rfl;exact ZnA)|exact QyA):G:=h
theorem Zkq {G:Prop}(h:G:=by repeat (first|exact QF.nil|(apply QF.mk;rfl;rfl;decide +kernel;exact Zqj))):G:=h
theorem ZyX {G:Prop}(h:G:=by(first|exact ZnA|(apply Zal;rfl;rfl;exact hb2))):G:=h
theorem ZxU {G:Prop}(h:G:=by first|(apply Qy_y;rfl;exact ZyX)|exact QyA):G:=h
theorem Zyi {G:Prop}(h:G:=by repeat (first|exact QF.nil|(apply QF.mk;rfl;rfl;decide +kernel;exact ZxU))):G:=h
set_option maxHeartbeats 2000000 in
theorem Zq4 (Ar Az Al As:Option Addr)(I J H cs:Nat)(a:DSource)(w:World)(hP:RapS)(T:Zak w Ar Az Al As I J H cs a)(X:ZcA a)(hV:SavI a) :
  Does Tryz.prog 126 [srcV Ar Az Al As I J H cs a] w (fun v O=>v=ptV (Zfc a)/\O=[]):=by
 have hn:=X.nr
 have M:=fun w' (c:Bel w.heap.size w w')=>Zn4 Ar Az Al As I J H cs a w' (T.up c) hn
 have W:=Ze3 a.rules []
 have U:=Ze4 a.rules []
 unfold Zfc
 generalize ZbI a.rules []=N at *
 simp only[List.length_nil,Nat.zero_add]at U
 obtain⟨E,s⟩:∃ E,ZcC a.rules N=E:=⟨_,rfl⟩
 rw[s]
 refine Zaa Tryz.func126 rfl rfl rfl rfl ?_
 repeat (first|refine walk ?_|(refine jg ?_;(try intro F);(first|(apply Zad (h:=fun w' c _=>M w' c);rfl;rintro v O' ⟨An,cn,rfl,rfl⟩)|(refine bx ?_;intro u));refine fin ?_))
 rename_i b1
 obtain⟨Q,hb2⟩:∃ Q,u=Q:=⟨_,rfl⟩
 rw[hb2]
 clear hb2 u
 refine Zah [(1,.pointer (some ⟨b1,0,none⟩)),(2,.pointer (some ⟨Q,0,none⟩)),(4,.slice An N.length cn)] [.row (.slice An N.length cn) 9 1 N.length (N.flatMap ZaR),.blk Q [.int .i64 0,.int .i64 0,.int .i64 0] 138,.blk b1 [.slice Ar a.rules.length I,.slice Az a.zones.length J,.slice Al a.links.length H,.slice As a.shifts.length cs] 27]
  (fun k:Nat=>[(5,.int .i64 k)]) (fun _=>[]) (fun k=>k<=N.length/\ZcC a.rules (N.drop k)=E) (fun k=>N.length - k) 0 SFA SOA ⟨Nat.zero_le _,s⟩ ?_
 clear M s
 rintro k ⟨hk,d⟩
 repeat (first|refine walk ?_|(refine jn ?_;(try intro F);((refine bx ?_;intro u));refine fin ?_))
 refine Zaf rfl (fun K=>?_) (fun K=>?_)
 ·simp only[decide_eq_true_eq,Int.ofNat_lt]at K
  have hg1:(N.flatMap ZaR)[k*1]?=some (.string N[k]):=by
   have:=ZaC (enc:=ZaR) (fun _=>rfl) N k _ 0 (.string N[k]) (List.getElem?_eq_getElem K) rfl
   simpa using this
  have aa:=W _ (List.getElem_mem K)
  rw[Zag K,ZcC]at d
  generalize N[k]=x at *
  have ad:x.size<=1000000000:=by
   rcases aa with h|⟨r,S,rfl⟩
   ·cases h
   ·exact(X.rs r S).1
  have z:=fun w' (c:Bel w.heap.size w w')=>ZkM Ar Az Al As I J H cs a x w' (T.up c) hn
  have f:=fun w'=>ZsL x (by omega) w'
  have L:∀ r∈ofB a.rules x,r∈a.rules:=fun r h=>Zoj h
  have ab:=Zh6 a.rules x
  have y:=fun A3 g w' (c:Bel w.heap.size w w') h=>Zod A3 g (ofB a.rules x) w' h (by omega) (fun r S=>⟨hV r (L r S),by have:=(X.rs r (L r S)).2;omega⟩)
  have q:=fun(hz:(Zcw (ofB a.rules x)).2=0) A3 g w' (c:Bel w.heap.size w w') h=>hP A3 g (ofB a.rules x) w' h (by omega) hz
  have t:=fun(i:Nat) (d:i<=1000000) w' (c:Bel w.heap.size w w')=>ZlW Ar Az Al As I J H cs a x i w' (T.up c) hn d
  have Z:=ZpJ (ofB a.rules x)
  have Y:=ZiV (ofB a.rules x)
  unfold Zb4 at d
  generalize ofB a.rules x=R at *
  cases hsb:setB x with
  | false =>
   rw[hsb]at d f
   rw[if_pos rfl]at d
   dsimp only at d
   have m:=t 0 (Nat.zero_le _)
   generalize Zb5 x a.rules 0 0=pl at *
   obtain⟨p1,p2,p3⟩:=pl
   simp only[plV,Zap.enc]at m
   subst d
   simp only[ptV,plV,Zap.enc]
   repeat (first|(apply RL_pu;rfl;exact ZnA)|(apply RD_Q;rfl;rfl;decide +kernel;rfl;rfl;exact Zqj)|refine walk1 ?_|(refine jg ?_;(try intro F);(first|(apply Zad (h:=fun w' c _=>z w' c);rfl;rintro v O' ⟨A3,g,rfl,rfl⟩)|(refine Zac (fun w' _=>f w') ?_)|(refine Zac m ?_)|(refine stA ?_));first|refine⟨_,EndsA,Zkq,?_⟩|refine fin ?_)|(refine jn ?_;(try intro F);(first|(refine bx ?_;intro u)|(apply Zam;exact PuA));refine⟨_,EndsA,Zkq,?_⟩))
   exact rtC
  | true =>
   rw[hsb]at d f
   rw[if_neg (by decide)]at d
   generalize Zcw R=rc at *
   obtain⟨ci,ce⟩:=rc
   dsimp only at d y Z q
   by_cases D:ce=0
   ·subst D
    replace q:=q rfl
    rw[if_neg (fun h=>h rfl)]at d
    generalize Zeh R=ap at *
    cases ap with
    | none =>
     simp only[apV,Zab.enc,dEv0]at q
     dsimp only at d
     repeat (first|(apply RL_pu;rfl;exact ZnA)|(apply RD_Q;rfl;rfl;decide +kernel;rfl;rfl;exact Zqj)|refine walk1 ?_|(refine jg ?_;(try intro F);(first|(apply Zad (h:=fun w' c _=>z w' c);rfl;rintro v O' ⟨A3,g,rfl,rfl⟩)|(refine Zac (fun w' _=>f w') ?_)|(refine ZaJ (fun w' c hO=>y A3 g w' c (ZaO DRule.len (hO.of (A := .row (.slice A3 R.length g) 68 11 R.length (R.flatMap DRule.enc)) (by repeat' constructor)))) ?_)|(refine ZaJ (fun w' c hO=>q A3 g w' c (ZaO DRule.len (hO.of (A := .row (.slice A3 R.length g) 68 11 R.length (R.flatMap DRule.enc)) (by repeat' constructor)))) ?_)|(refine bx ?_;intro u));first|refine⟨_,EndsA,Zkq,?_⟩|refine fin ?_)|(refine jn ?_;(try intro F);(first|(refine bx ?_;intro u)|(apply Zam;exact PuA));refine⟨_,EndsA,Zkq,?_⟩))
     exact⟨k+1,OA,⟨OA,d⟩,SFA,SOA⟩
    | some e =>
     obtain⟨j,hj,ac⟩:=Y e rfl
     obtain⟨ey,er,en⟩:=e
     dsimp only at hj
     subst hj
     simp only[apV,Zab.enc]at q
     simp only[Int.toNat_natCast]at d
     have m:=t j (by omega)
     generalize Zb5 x a.rules j 0=pl at *
     obtain⟨p1,p2,p3⟩:=pl
     simp only[plV,Zap.enc]at m
     subst d
     simp only[ptV,plV,Zap.enc]
     repeat (first|(apply RL_pu;rfl;exact ZnA)|(apply RD_Q;rfl;rfl;decide +kernel;rfl;rfl;exact Zqj)|refine walk1 ?_|(refine jg ?_;(try intro F);(first|(apply Zad (h:=fun w' c _=>z w' c);rfl;rintro v O' ⟨A3,g,rfl,rfl⟩)|(refine Zac (fun w' _=>f w') ?_)|(refine ZaJ (fun w' c hO=>y A3 g w' c (ZaO DRule.len (hO.of (A := .row (.slice A3 R.length g) 68 11 R.length (R.flatMap DRule.enc)) (by repeat' constructor)))) ?_)|(refine ZaJ (fun w' c hO=>q A3 g w' c (ZaO DRule.len (hO.of (A := .row (.slice A3 R.length g) 68 11 R.length (R.flatMap DRule.enc)) (by repeat' constructor)))) ?_)|(refine Zac m ?_)|(refine bx ?_;intro u)|(refine stA ?_));first|refine⟨_,EndsA,Zkq,?_⟩|refine fin ?_)|(refine jn ?_;(try intro F);(first|(refine bx ?_;intro u)|(apply Zam;exact PuA));refine⟨_,EndsA,Zkq,?_⟩))
     exact rtC
   ·rw[if_pos D]at d
    dsimp only at d
    have hb2:(!decide (ce=0))=true:=by rw[decide_eq_false D];rfl
    have m:=t ci (by omega)
    generalize Zb5 x a.rules ci 0=pl at *
    obtain⟨p1,p2,p3⟩:=pl
    simp only[plV,Zap.enc]at m
    subst d
    simp only[ptV,plV,Zap.enc]
    repeat (first|(apply RL_pu;rfl;exact ZyX)|(apply RD_Q;rfl;rfl;decide +kernel;rfl;rfl;exact ZxU)|refine walk1 ?_|(refine jg ?_;(try intro F);(first|(apply Zad (h:=fun w' c _=>z w' c);rfl;rintro v O' ⟨A3,g,rfl,rfl⟩)|(refine Zac (fun w' _=>f w') ?_)|(refine ZaJ (fun w' c hO=>y A3 g w' c (ZaO DRule.len (hO.of (A := .row (.slice A3 R.length g) 68 11 R.length (R.flatMap DRule.enc)) (by repeat' constructor)))) ?_)|(refine Zac m ?_)|(refine stA ?_));first|refine⟨_,EndsA,Zyi,?_⟩|refine fin ?_)|(refine jn ?_;(try intro F);(first|(refine bx ?_;intro u)|(apply Zam;exact PuA));refine⟨_,EndsA,Zyi,?_⟩))
    exact rtC
 ·simp only[decide_eq_false_iff_not,Int.ofNat_lt]at K
  rw[List.drop_eq_nil_of_le (by omega),ZcC]at d
  subst d
  repeat (first|refine walk ?_|(refine jn ?_;(try intro F);((refine bx ?_;intro u));refine fin ?_))
  exact rtC
theorem ZdV (Ar Az Al As:Option Addr)(i j g cs:Nat)(a:DSource)(e:DEra)(w:World)(t:Zak w Ar Az Al As i j g cs a)(x:a.rules.length<=1000000) :
  Does Tryz.prog 251 [srcV Ar Az Al As i j g cs a,.agg e.enc.toArray] w (ZgZ 68 11 DRule.enc (ZaA a.rules e)):=by
 have d:=fun w' (p:Bel w.heap.size w w')=>ZkM Ar Az Al As i j g cs a e.set w' (t.up p) x
 unfold ZaA
 obtain⟨y,c,r,set,f,til⟩:=e
 dsimp only at d ⊢
 simp only[DEra.enc]
 refine Zaa Tryz.func251 rfl rfl rfl rfl ?_
 by_cases m:c=2
 ·subst m
  rw[if_pos rfl]
  generalize ofB a.rules set=R at *
  repeat (first|(refine js ?_;(first|(apply Zad (h:=fun w' p _=>d w' p);rfl;rintro v O' ⟨A3,q,rfl,rfl⟩)|(refine bx ?_;intro s)))|refine walk ?_)
  exact ret_1 _ [.row (.slice A3 R.length q) 68 11 R.length (R.flatMap DRule.enc)] (.tmp rfl) SOA ⟨A3,q,rfl,rfl⟩
 ·rw[if_neg m]
  have u:(!decide (c=2))=true:=by rw[decide_eq_false m];rfl
  refine ZdO 68 11 ?_
  repeat (first|(apply RL_pu;rfl;(apply Zal;rfl;rfl;exact u))|(refine js ?_;(refine bx ?_;intro s))|refine walk1 ?_)
  exact ret_1 _ [.row (.slice none 0 0) 68 11 0 []] (.tmp rfl) SOA ⟨none,0,rfl,rfl⟩
theorem Zy0 {G:Prop}(h:G:=by(apply Zao;rfl;rfl;exact b1)):G:=h
theorem ZCN {G:Prop}(h:G:=by(first|(apply ZaF;rfl;rfl;omega;omega;(intro w' _ hO;exact(Za9 (hO.of (A := .row (.slice A3 R.length c3) 68 11 R.length (R.flatMap DRule.enc)) (by repeat' constructor)) hg1).1))|(apply ZeT;rfl;(focus repeat' constructor);first|exact hs9|exact hs10))):G:=h
theorem ZBV {G:Prop}(h:G:=by first|(apply Qy_y;rfl;exact ZCN)|exact QyA):G:=h
theorem ZB5 {G:Prop}(h:G:=by repeat (exact QF.nil)):G:=h
theorem ZyZ {G:Prop}(h:G:=by(first|exact Zy0|(apply Zal;rfl;rfl;exact b2))):G:=h
theorem ZkE (Ar Az Al As:Option Addr)(D E z cs:Nat)(a:DSource)(e:DEra)(w:World)(K:Zak w Ar Az Al As D E z cs a)(J:a.rules.length<=1000000) :
  Does Tryz.prog 252 [srcV Ar Az Al As D E z cs a,.agg e.enc.toArray] w (StR (ZaB a.rules e)):=by
 have u:=fun w' (I:Bel w.heap.size w w')=>ZdV Ar Az Al As D E z cs a e w' (K.up I) J
 have L:(ZaA a.rules e).length<=1000000:=by
  unfold ZaA
  split
  ·exact Nat.le_trans (Zh6 _ _) J
  ·exact Nat.zero_le _
 unfold ZaB
 generalize ZaA a.rules e=R at *
 obtain⟨T,d,save,set,y,til⟩:=e
 dsimp only at u ⊢
 simp only[DEra.enc]at u ⊢
 refine Zaa Tryz.func252 rfl rfl rfl rfl ?_
 by_cases s:d=1
 ·subst s
  rw[if_pos rfl]
  repeat (first|refine walk ?_|(refine jn ?_;(try intro F);((refine bx ?_;intro f));refine fin ?_))
  exact ret_1 _ [.blk f [.int .i64 save,.string ByteArray.empty] 155] (.tmp rfl) SOA (.inr ⟨f,(save,ByteArray.empty),rfl,rfl,rfl⟩)
 have b1:decide (d=1)=false:=decide_eq_false s
 rw[if_neg s]
 by_cases t:d=2
 ·subst t
  rw[if_pos rfl]
  repeat (first|(apply RL_pu;rfl;exact Zy0)|refine walk1 ?_|(refine jg ?_;(try intro F);(first|(apply Zad (h:=fun w' I _=>u w' I);rfl;rintro v O' ⟨A3,c3,rfl,rfl⟩)|(refine bx ?_;intro f));first|refine⟨_,EndsA,QFRfR1,?_⟩|refine fin ?_))
  refine ZdO 155 2 ?_
  refine Zah [(6,.slice A3 R.length c3)] [.row (.slice A3 R.length c3) 68 11 R.length (R.flatMap DRule.enc)] (fun g:StG=>[(5,.slice g.A g.m g.c),(7,.int .i64 g.k)]) (fun g=>[.row (.slice g.A g.m g.c) 155 2 g.m g.ys])
   (fun g=>g.k<=R.length/\g.m=g.k/\g.ys=((R.take g.k).map fun r=>(r.save,r.letter)).flatMap Za4) (fun g=>R.length - g.k) ⟨0,none,0,0,[]⟩ SFA SOA ⟨Nat.zero_le _,rfl,rfl⟩ ?_
  rintro⟨k,A1,c1,m,ys⟩ ⟨hkl,hm,hy⟩
  dsimp only at hkl hm hy ⊢
  repeat (first|refine walk ?_|(refine jn ?_;(try intro F);((refine bx ?_;intro f));refine fin ?_))
  refine Zaf rfl (fun x=>?_) (fun x=>?_)
  ·simp only[decide_eq_true_eq,Int.ofNat_lt]at x
   have hg1:=ZaC DRule.len R k _ 0 _ (List.getElem?_eq_getElem x) rfl
   have q:∀ j v,(DRule.enc R[k])[j]?=some v->(R.flatMap DRule.enc)[k*11+j]?=some v:=fun j v S=>ZaC DRule.len R k _ j v (List.getElem?_eq_getElem x) S
   have hs9:=q 9 _ rfl
   have hs10:=q 10 _ rfl
   have H:=List.take_append_getElem x
   generalize R[k]=r at *
   simp only[DRule.enc]at q hg1
   repeat (first|(apply RD_Q;rfl;rfl;decide +kernel;rfl;rfl;exact ZBV)|refine walk1 ?_|(refine jn ?_;(try intro F);(first|(apply ZaD;rfl;rfl;(intro A' c';(focus repeat' constructor));(intro w' _ hO;exact ZbC (hO.of (by repeat' constructor)));rfl;rfl;(simp only[maxLen];omega);omega;intro A' c' M N Q)|(apply Zam;exact PuA));refine⟨_,EndsA,ZB5,?_⟩)|(apply RD_W;rfl;intro f))
   exact⟨⟨k+1,A',c',m+1,ys++[.int .i64 r.save,.string r.letter]⟩,OA,⟨OA,OA,by dsimp only;rw[hy,<- H];simp[Za4]⟩,SFA,SOA⟩
  ·obtain rfl:k=R.length:=by simp only[decide_eq_false_iff_not,Int.ofNat_lt]at x;omega
   rw[List.take_length]at hy
   subst hm hy
   repeat (first|refine walk ?_|(refine jn ?_;(try intro F);((refine bx ?_;intro f));refine fin ?_))
   exact ret_1 _ [.row (.slice A1 R.length c1) 155 2 R.length ((R.map fun r=>(r.save,r.letter)).flatMap Za4)] (.tmp rfl) SOA (.inl ⟨A1,c1,by rw[List.length_map],by rw[List.length_map]⟩)
 have b2:(!decide (d=2))=true:=by rw[decide_eq_false t];rfl
 rw[if_neg t]
 repeat (first|(apply RL_pu;rfl;exact ZyZ)|refine walk1 ?_|(refine jn ?_;(try intro F);(first|(refine bx ?_;intro f)|(apply Zam;first|exact ZyZ|exact PuA));first|refine⟨_,EndsA,QFRfR3,?_⟩|refine fin ?_))
 exact ret_1 _ [.blk f [.int .i64 0,.string ByteArray.empty] 155] (.tmp rfl) SOA (.inr ⟨f,(0,ByteArray.empty),rfl,rfl,rfl⟩)
theorem Zg8 (Ar Az Al As:Option Addr)(d f c cs:Nat)(a:DSource)(e:DEra)(w:World)(i:Zak w Ar Az Al As d f c cs a)(k:a.rules.length<=1000000) :
  Does Tryz.prog 252 [srcV Ar Az Al As d f c cs a,.agg e.enc.toArray] w (ZgZ 155 2 Za4 (ZaB a.rules e)) :=
 (ZkE Ar Az Al As d f c cs a e w i k).monoH fun v O base w' j g=>by
  rcases j with h|⟨b,x,hl,rfl,rfl⟩
  ·exact⟨O,h,g⟩
  ·rw[hl]
   exact⟨_,⟨some ⟨b,0,none⟩,1,rfl,rfl⟩,g.toRow (m:=1) 2 rfl (by decide) (by simpa using Upd.here)⟩
def inO (x:Int):Bool:=decide (-54000<=x)&&decide (x<=54000)
theorem Zjw (x:Int)(w:World):Does Tryz.prog 253 [.int .i64 x] w (fun v O=>v = .bool (inO x)/\O=[]):=by
 refine Zaa Tryz.func253 rfl rfl rfl rfl ?_
 repeat' (first|refine walk ?_|(refine Zar rfl rfl rfl (fun a=>?_) (fun a=>?_)))
 all_goals (refine ret_1 _ [] (.tmp rfl) .nil ⟨?_,rfl⟩;first|(simp_all [inO];done)|(simp_all [inO];omega))
end Go.Proofs.YtpipekfmecikmaaGreatDoor
