/- Parts of the proof. -/
import Derived.Test.YtpipekfmecikmaaGreatDoorA25
set_option maxHeartbeats 0
set_option linter.all false
namespace Go.Proofs.YtpipekfmecikmaaGreatDoor
open Go Go.RowKit Go.Wk
end Go.Proofs.YtpipekfmecikmaaGreatDoor
namespace Go.Wk
open Go Go.RowKit
end Go.Wk
namespace Go.Proofs.YtpipekfmecikmaaGreatDoor
open Go Go.RowKit Go.Wk
attribute [local irreducible] W RL Does Zaq Zai retQ Calls Pu Stp RD Qy Ay Zaj
end Go.Proofs.YtpipekfmecikmaaGreatDoor
namespace Go.Wk
open Go Go.RowKit
theorem Zqd (s:ByteArray)(i j:Nat):(s.extract i j).data.toList=(s.data.toList.drop i).take (j - i):=by
 rw[ByteArray.data_extract];simp[List.drop_take]
theorem Zw1 {l:List UInt8}{f i:Nat}(h:f<=i)(a:i<l.length):(l.drop f).take (i+1 - f)=(l.drop f).take (i - f)++[l[i]]:=by
 rw[show i+1 - f=(i - f)+1 by omega,List.take_add_one,List.getElem?_drop,show f+(i - f)=i by omega,List.getElem?_eq_getElem a]
 rfl
end Go.Wk
namespace Go.Proofs.YtpipekfmecikmaaGreatDoor
open Go Go.RowKit Go.Wk Tryz
attribute [local irreducible] W RL Does Zaq Zai retQ Calls Pu Stp RD Qy Ay Zaj
theorem ZzS {G:Prop}(h:G:=by(apply Zau;rfl;rfl;exact b1)):G:=h
theorem ZvF {G:Prop}(h:G:=by(first|(apply Za3;rfl;rfl;decide;omega;exact hgc)|(apply Zau;rfl;rfl;exact b1)|(apply Zav;rfl;rfl;exact b2)|(apply Zap;rfl;rfl;first|exact e1|exact e2))):G:=h
theorem ZDF {G:Prop}(h:G:=by(first|(apply Za3;rfl;rfl;omega;omega;exact hgc)|(apply Zal;rfl;rfl;first|exact e1|exact e2|exact e3|exact e4))):G:=h
theorem ZhN {G G':Prop}(k:G')(h:Hold G'->G:=by intro k9;(first|(apply RL_pu;rfl;exact ZDF)|(refine js ?_;(first|(refine Zab (fun w' _=>hcl w') ?_)|(refine Zab (fun w' _=>hcd w') ?_)))|refine walk1 ?_);exact k9.out):G:=h ⟨k⟩
set_option maxHeartbeats 0 in
theorem ZjD (s:ByteArray)(E:(s.size:Int)<=9223372036854775807)(w:World):Does prog 250 [.string s] w (fun v O=>v = .bool (ZgM s.data.toList)/\O=[]):=by
 have r:s.data.toList.length=s.size:=rfl
 obtain⟨R,u⟩:∃ R,(s.data.toList.all fun c=>Zot c.toNat)=R:=⟨_,rfl⟩
 have f:ZgM s.data.toList=((decide (1<=s.size)&&decide (s.size<=14)&&R)&&!(decide (s.data.toList.getD 0 0=46)||decide (s.data.toList.getD 0 0=45))):=by
  unfold ZgM Zb7 ZbO
  rw[<- u,r]
  have z:(fun c:UInt8 => !decide (ZbX c.toNat &&& 31=0))=fun c=>Zot c.toNat:=funext Zr5
  rw[z]
  cases hd:s.data.toList with
  | nil=>rw[hd]at r;rw[show s.size=0 from r.symm];rfl
  | cons x l=>rfl
 refine Zaa func250 rfl rfl rfl rfl ?_
 by_cases B:s.size<1
 ·have b1:decide ((s.size:Int)<1)=true:=dT_ (by omega)
  rw[show ZgM s.data.toList=false by rw[f,dF_ (show ¬ 1<=s.size by omega)];rfl]
  repeat (first|(apply RL_pu;rfl;exact ZzS)|refine walk1 ?_)
  exact rtA
 have b1:decide ((s.size:Int)<1)=false:=dF_ (by omega)
 by_cases C:14<s.size
 ·have b2:decide (14<(s.size:Int))=true:=dT_ (by omega)
  rw[show ZgM s.data.toList=false by rw[f,dF_ (show ¬ s.size<=14 by omega),Bool.and_false];rfl]
  repeat (first|(apply RL_pu;rfl;(first|exact ZzS|(apply Zav;rfl;rfl;exact b2)))|refine walk1 ?_)
  exact rtA
 have b2:decide (14<(s.size:Int))=false:=dF_ (by omega)
 obtain⟨c,hgc⟩:∃ c,s.data.toList.getD ((0:Int)).toNat 0=c:=⟨_,rfl⟩
 rw[show s.data.toList.getD 0 0=c from hgc,dT_ (show 1<=s.size by omega),dT_ (show s.size<=14 by omega)]at f
 have m:decide ((c.toNat:Int)=46)=decide (c=46):=by
  rw[decide_eq_decide]
  constructor
  ·intro h;exact UInt8.toNat_inj.1 (by show c.toNat=46;omega)
  ·intro h;rw[h];rfl
 have j:decide ((c.toNat:Int)=45)=decide (c=45):=by
  rw[decide_eq_decide]
  constructor
  ·intro h;exact UInt8.toNat_inj.1 (by show c.toNat=45;omega)
  ·intro h;rw[h];rfl
 obtain⟨e,e1⟩:∃ e,decide ((c.toNat:Int)=46)=e:=⟨_,rfl⟩
 obtain⟨z2,e2⟩:∃ z2,decide ((c.toNat:Int)=45)=z2:=⟨_,rfl⟩
 rw[<- m,<- j,e1,e2]at f
 cases e with
 | true =>
  rw[f,Bool.true_or,Bool.not_true,Bool.and_false]
  repeat (first|(apply RL_pu;rfl;exact ZvF)|refine walk1 ?_)
  exact rtA
 | false =>
 cases z2 with
 | true =>
  rw[f,Bool.or_true,Bool.not_true,Bool.and_false]
  repeat (first|(apply RL_pu;rfl;exact ZvF)|refine walk1 ?_)
  exact rtA
 | false =>
 rw[show ZgM s.data.toList=R by rw[f,Bool.or_false,Bool.not_false,Bool.and_true];rfl]
 repeat (first|(apply RL_pu;rfl;exact ZvF)|refine walk1 ?_)
 clear hgc f e1 e2 m j
 refine Zah [(0,.string s)] [] (fun k:Nat=>[(3,.int .i64 k)]) (fun _=>[]) (fun k=>k<=s.size/\((s.data.toList.drop k).all fun c=>Zot c.toNat)=R) (fun k=>s.size - k) 0 SFA SOA ⟨Nat.zero_le _,u⟩ ?_
 rintro k ⟨D,i⟩
 repeat (refine walk ?_)
 refine Zaf rfl (fun t=>?_) (fun t=>?_)
 ·simp only[decide_eq_true_eq,Int.ofNat_lt]at t
  have hgc:s.data.toList.getD ((k:Int)).toNat 0=s.data.toList[k]:=Zdw (by omega)
  rw[Zag (show k<s.data.toList.length by omega),List.all_cons]at i
  generalize s.data.toList[k]=d at *
  unfold Zot at i
  have hcl:=fun w'=>Zcz d.toNat w'
  have hcd:=fun w'=>Zh9 d.toNat w'
  generalize letC d.toNat=x at *
  generalize digC d.toNat=y at *
  obtain⟨e,e1⟩:∃ e,(!decide ((d.toNat:Int)=46))=e:=⟨_,rfl⟩
  obtain⟨z2,e2⟩:∃ z2,(!decide ((d.toNat:Int)=95))=z2:=⟨_,rfl⟩
  obtain⟨z3,e3⟩:∃ z3,(!decide ((d.toNat:Int)=43))=z3:=⟨_,rfl⟩
  obtain⟨z4,e4⟩:∃ z4,(!decide ((d.toNat:Int)=45))=z4:=⟨_,rfl⟩
  rw[show decide ((d.toNat:Int)=46) = !e by rw[<- e1,Bool.not_not],show decide ((d.toNat:Int)=95) = !z2 by rw[<- e2,Bool.not_not],show decide ((d.toNat:Int)=43) = !z3 by rw[<- e3,Bool.not_not],show decide ((d.toNat:Int)=45) = !z4 by rw[<- e4,Bool.not_not]]at i
  have g:∀ q:Bool,(x||(y||(!e||(!z2||(!z3||!z4)))))=q->(q&&(s.data.toList.drop (k+1)).all fun c=>Zot c.toNat)=R:=fun q A=>by rw[<- A];exact i
  cases x with
  | true =>
   repeat refine ZhN ?_
   exact⟨k+1,OA,⟨OA,by simpa using g true rfl⟩,SFA,SOA⟩
  | false =>
  cases y with
  | true =>
   repeat refine ZhN ?_
   exact⟨k+1,OA,⟨OA,by simpa using g true rfl⟩,SFA,SOA⟩
  | false =>
  cases e with
  | false =>
   repeat refine ZhN ?_
   exact⟨k+1,OA,⟨OA,by simpa using g true rfl⟩,SFA,SOA⟩
  | true =>
  cases z2 with
  | false =>
   repeat refine ZhN ?_
   exact⟨k+1,OA,⟨OA,by simpa using g true rfl⟩,SFA,SOA⟩
  | true =>
  cases z3 with
  | false =>
   repeat refine ZhN ?_
   exact⟨k+1,OA,⟨OA,by simpa using g true rfl⟩,SFA,SOA⟩
  | true =>
  cases z4 with
  | false =>
   repeat refine ZhN ?_
   exact⟨k+1,OA,⟨OA,by simpa using g true rfl⟩,SFA,SOA⟩
  | true =>
   have:=g false rfl
   rw[Bool.false_and]at this
   subst this
   repeat refine ZhN ?_
   exact rtA
 ·simp only[decide_eq_false_iff_not,Int.ofNat_lt]at t
  rw[List.drop_eq_nil_of_le (by omega),List.all_nil]at i
  subst i
  repeat (refine walk ?_)
  exact rtA
structure RzG where
 i:Nat
 f:Nat
theorem ZzR {G:Prop}(h:G:=by(first|(apply Za3;rfl;rfl;omega;omega;exact hgc)|(apply Zap;rfl;rfl;exact b1)|(apply Zfk;rfl;rfl;rfl;omega;omega;omega;rfl))):G:=h
theorem ZzQ {G:Prop}(h:G:=by(apply Zg5;rfl;rfl;omega;omega)):G:=h
theorem ZjI (s:ByteArray)(z:(s.size:Int)<=9223372036854775807)(w:World):Does prog 193 [.string s] w (fun v O=>v = .bool (Zfl s)/\O=[]):=by
 have y:s.data.toList.length=s.size:=rfl
 have m:∀ i j,((s.extract i j).size:Int)<=9223372036854775807:=fun i j=>by rw[ByteArray.size_extract];omega
 unfold Zfl
 obtain⟨R,u⟩:∃ R,(Zer s.data.toList []).all ZgM=R:=⟨_,rfl⟩
 rw[u]
 refine Zaa func193 rfl rfl rfl rfl ?_
 repeat (refine walk ?_)
 refine Zah [(0,.string s)] [] (fun g:RzG=>[(3,.int .i64 g.f),(4,.int .i64 g.i)]) (fun _=>[]) (fun g=>g.f<=g.i/\g.i<=s.size/\(Zer (s.data.toList.drop g.i) ((s.data.toList.drop g.f).take (g.i - g.f))).all ZgM=R) (fun g=>s.size - g.i) ⟨0,0⟩ SFA SOA ⟨Nat.le_refl _,Nat.zero_le _,u⟩ ?_
 rintro⟨i,f⟩ ⟨h1,h2,hi⟩
 dsimp only at h1 h2 hi ⊢
 repeat (refine walk ?_)
 refine Zaf rfl (fun t=>?_) (fun t=>?_)
 ·simp only[decide_eq_true_eq,Int.ofNat_lt]at t
  have hgc:s.data.toList.getD ((i:Int)).toNat 0=s.data.toList[i]:=Zdw (by omega)
  have x:=Zw1 h1 (show i<s.data.toList.length by omega)
  rw[Zag (show i<s.data.toList.length by omega),Zer]at hi
  generalize s.data.toList[i]=d at *
  have q:((d.toNat:Int)=47)↔d=47:=by
   constructor
   ·intro h;exact UInt8.toNat_inj.1 (by show d.toNat=47;omega)
   ·intro h;rw[h];rfl
  by_cases r:d=47
  ·have b1:decide ((d.toNat:Int)=47)=true:=dT_ (q.2 r)
   rw[if_pos r,List.all_cons]at hi
   have c:=fun w'=>ZjD (s.extract f i) (m f i) w'
   rw[Zqd]at c
   generalize ZgM ((s.data.toList.drop f).take (i - f))=pb at *
   cases pb with
   | true =>
    rw[Bool.true_and]at hi
    repeat (first|(apply RL_pu;rfl;exact ZzR)|(refine js ?_;(refine Zab (fun w' _=>c w') ?_))|refine walk1 ?_)
    exact⟨⟨i+1,i+1⟩,OA,⟨OA,OA,by dsimp only;rw[Nat.sub_self,List.take_zero];exact hi⟩,SFA,SOA⟩
   | false =>
    rw[Bool.false_and]at hi
    subst hi
    repeat (first|(apply RL_pu;rfl;exact ZzR)|(refine js ?_;(refine Zab (fun w' _=>c w') ?_))|refine walk1 ?_)
    exact ret_1 _ [] (.tmp rfl) .nil ⟨by rw[Bool.and_false],rfl⟩
  ·have b1:decide ((d.toNat:Int)=47)=false:=dF_ (fun e=>r (q.1 e))
   rw[if_neg r,<- x]at hi
   repeat (first|(apply RL_pu;rfl;(first|(apply Za3;rfl;rfl;omega;omega;exact hgc)|(apply Zap;rfl;rfl;exact b1)))|refine walk1 ?_)
   exact⟨⟨i+1,f⟩,OA,⟨OA,OA,hi⟩,SFA,SOA⟩
 ·simp only[decide_eq_false_iff_not,Int.ofNat_lt]at t
  obtain rfl:i=s.size:=by omega
  rw[List.drop_eq_nil_of_le (by omega),Zer,List.all_cons,List.all_nil,Bool.and_true]at hi
  have c:=fun w'=>ZjD (s.extract f s.size) (m f s.size) w'
  rw[Zqd,hi]at c
  cases R with
  | true =>
   rw[Bool.and_true,show decide (s.size<=60)=decide ((s.size:Int)<=60) by rw[decide_eq_decide];omega]
   repeat (first|(apply RL_pu;rfl;exact ZzQ)|(refine js ?_;(refine Zab (fun w' _=>c w') ?_))|refine walk1 ?_)
   exact rtA
  | false =>
   rw[Bool.and_false]
   repeat (first|(apply RL_pu;rfl;exact ZzQ)|(refine js ?_;(refine Zab (fun w' _=>c w') ?_))|refine walk1 ?_)
   exact rtA
def ixN:Option Nat->Int
 | some i=>i
 | none => -1
theorem ZoF (o:Option Nat):decide ((0:Int)<=ixN o)=o.isSome:=by
 cases o with
 | none=>rfl
 | some i=>exact dT_ (show(0:Int)<=(i:Int) by omega)
def ZeS (s:DSource):Nat->ByteArray->Nat × Int
 | 0,_=>(0,11)
 | f+1,x =>
  match ZaK x s.zones 0 with
  | some i=>(i,0)
  | none=>match ZaO x s.links 0 with
   | none=>(0,9)
   | some i=>ZeS s f ((s.links[i]?).map (·.target) |>.getD ByteArray.empty)
theorem Zm2 {z:DZone}:∀ (l:List DZone) (k i:Nat),l[i]?=some z->∃ j,ZaK z.name l k=some j/\j<=k+i
 | [],_,i,h=>by simp at h
 | y::l,k,i,h=>by
  rw[ZaK]
  by_cases a:y.name=z.name
  ·rw[if_pos a];exact⟨k,rfl,Nat.le_add_right _ _⟩
  ·rw[if_neg a]
   cases i with
   | zero=>simp only[List.getElem?_cons_zero,Option.some.injEq]at h;rw[h]at a;exact absurd rfl a
   | succ i =>
    obtain⟨j,b,c⟩:=Zm2 l (k+1) i (by simpa using h)
    exact⟨j,b,by omega⟩
theorem Zm3 {z:DLink}:∀ (l:List DLink) (k i:Nat),l[i]?=some z->∃ j,ZaO z.name l k=some j/\j<=k+i
 | [],_,i,h=>by simp at h
 | y::l,k,i,h=>by
  rw[ZaO]
  by_cases a:y.name=z.name
  ·rw[if_pos a];exact⟨k,rfl,Nat.le_add_right _ _⟩
  ·rw[if_neg a]
   cases i with
   | zero=>simp only[List.getElem?_cons_zero,Option.some.injEq]at h;rw[h]at a;exact absurd rfl a
   | succ i =>
    obtain⟨j,b,c⟩:=Zm3 l (k+1) i (by simpa using h)
    exact⟨j,b,by omega⟩
theorem ZgG (Ar Az Al As:Option Addr)(g i f cs:Nat)(a:DSource)(x:ByteArray)(w:World)(r:Zam w Ar Az Al As g i f cs a)(y:a.zones.length<=1000000) :
  Does prog 100 [srcV Ar Az Al As g i f cs a,.string x] w (fun v O=>v = .int .i64 (ixN (ZaK x a.zones 0))/\O=[]):=by
 obtain⟨R,m⟩:∃ R,ZaK x a.zones 0=R:=⟨_,rfl⟩
 rw[m]
 refine Zaa func100 rfl rfl rfl rfl ?_
 repeat (first|(refine js ?_;(refine bx ?_;intro d))|refine walk ?_)
 refine Zah [(1,.string x),(2,.pointer (some ⟨d,0,none⟩))] [.blk d [.slice Ar a.rules.length g,.slice Az a.zones.length i,.slice Al a.links.length f,.slice As a.shifts.length cs] 27] (fun k:Nat=>[(5,.int .i64 k)]) (fun _=>[]) (fun k=>k<=a.zones.length/\ZaK x (a.zones.drop k) k=R) (fun k=>a.zones.length - k) 0 SFA SOA ⟨Nat.zero_le _,m⟩ ?_
 clear m
 rintro k ⟨u,c⟩
 repeat (first|(refine js ?_;(refine bx ?_;intro d))|refine walk ?_)
 refine Zaf rfl (fun e=>?_) (fun e=>?_)
 ·simp only[decide_eq_true_eq,Int.ofNat_lt]at e
  obtain⟨hna,q,⟨Ae,t,s,rfl⟩,hca⟩:=r.z k _ (List.getElem?_eq_getElem e)
  rw[Zag e,ZaK]at c
  generalize a.zones[k]=z at *
  repeat (first|(apply RL_pu;rfl;exact PuI)|refine walk1 ?_)
  refine Zaf rfl (fun j=>?_) (fun j=>?_)
  ·rw[if_pos (of_decide_eq_true j)]at c
   subst c
   repeat (first|(refine js ?_;(refine bx ?_;intro d))|refine walk ?_)
   exact rtA
  ·rw[if_neg (of_decide_eq_false j)]at c
   repeat (first|(refine js ?_;(refine bx ?_;intro d))|refine walk ?_)
   exact⟨k+1,OA,⟨OA,c⟩,SFA,SOA⟩
 ·simp only[decide_eq_false_iff_not,Int.ofNat_lt]at e
  rw[List.drop_eq_nil_of_le (by omega),ZaK]at c
  subst c
  repeat (first|(refine js ?_;(refine bx ?_;intro d))|refine walk ?_)
  exact rtA
theorem ZgI (Ar Az Al As:Option Addr)(g i f cs:Nat)(a:DSource)(x:ByteArray)(w:World)(q:Zam w Ar Az Al As g i f cs a)(s:a.links.length<=1000000) :
  Does prog 101 [srcV Ar Az Al As g i f cs a,.string x] w (fun v O=>v = .int .i64 (ixN (ZaO x a.links 0))/\O=[]):=by
 obtain⟨R,m⟩:∃ R,ZaO x a.links 0=R:=⟨_,rfl⟩
 rw[m]
 refine Zaa func101 rfl rfl rfl rfl ?_
 repeat (first|(refine js ?_;(refine bx ?_;intro d))|refine walk ?_)
 refine Zah [(1,.string x),(2,.pointer (some ⟨d,0,none⟩))] [.blk d [.slice Ar a.rules.length g,.slice Az a.zones.length i,.slice Al a.links.length f,.slice As a.shifts.length cs] 27] (fun k:Nat=>[(5,.int .i64 k)]) (fun _=>[]) (fun k=>k<=a.links.length/\ZaO x (a.links.drop k) k=R) (fun k=>a.links.length - k) 0 SFA SOA ⟨Nat.zero_le _,m⟩ ?_
 clear m
 rintro k ⟨r,c⟩
 repeat (first|(refine js ?_;(refine bx ?_;intro d))|refine walk ?_)
 refine Zaf rfl (fun e=>?_) (fun e=>?_)
 ·simp only[decide_eq_true_eq,Int.ofNat_lt]at e
  obtain⟨hna,hca⟩:=q.l.rd k _ (List.getElem?_eq_getElem e)
  rw[Zag e,ZaO]at c
  generalize a.links[k]=z at *
  repeat (first|(apply RL_pu;rfl;exact PuI)|refine walk1 ?_)
  refine Zaf rfl (fun j=>?_) (fun j=>?_)
  ·rw[if_pos (of_decide_eq_true j)]at c
   subst c
   repeat (first|(refine js ?_;(refine bx ?_;intro d))|refine walk ?_)
   exact rtA
  ·rw[if_neg (of_decide_eq_false j)]at c
   repeat (first|(refine js ?_;(refine bx ?_;intro d))|refine walk ?_)
   exact⟨k+1,OA,⟨OA,c⟩,SFA,SOA⟩
 ·simp only[decide_eq_false_iff_not,Int.ofNat_lt]at e
  rw[List.drop_eq_nil_of_le (by omega),ZaO]at c
  subst c
  repeat (first|(refine js ?_;(refine bx ?_;intro d))|refine walk ?_)
  exact rtA
theorem ZzK {G:Prop}(h:G:=by(apply ZbF;rfl;rfl;first|exact b1|exact b2)):G:=h
theorem Zog (Ar Az Al As:Option Addr)(c d b cs:Nat)(a:DSource)(x:ByteArray)(w:World)(g:Zam w Ar Az Al As c d b cs a)(p:a.zones.length<=1000000)(e:a.links.length<=1000000) :
  Does prog 194 [srcV Ar Az Al As c d b cs a,.string x] w (fun v O=>v = .bool ((ZaK x a.zones 0).isSome||(ZaO x a.links 0).isSome)/\O=[]):=by
 have j:=fun w' (f:Bel w.heap.size w w')=>ZgG Ar Az Al As c d b cs a x w' (g.up f) p
 have i:=fun w' (f:Bel w.heap.size w w')=>ZgI Ar Az Al As c d b cs a x w' (g.up f) e
 have b1:=ZoF (ZaK x a.zones 0)
 have b2:=ZoF (ZaO x a.links 0)
 generalize ZaK x a.zones 0=o1 at *
 generalize ZaO x a.links 0=o2 at *
 generalize ixN o1=n1 at *
 generalize ixN o2=n2 at *
 refine Zaa func194 rfl rfl rfl rfl ?_
 generalize o1.isSome=z1 at *
 generalize o2.isSome=z2 at *
 cases z1 with
 | true =>
  repeat (first|(apply RL_pu;rfl;exact ZzK)|(refine js ?_;(first|(refine Zab j ?_)|(refine Zab i ?_)|(refine bx ?_;intro m)))|refine walk1 ?_)
  exact rtA
 | false =>
  repeat (first|(apply RL_pu;rfl;exact ZzK)|(refine js ?_;(first|(refine Zab j ?_)|(refine Zab i ?_)|(refine bx ?_;intro m)))|refine walk1 ?_)
  exact rtA
structure ZD6 where
 k:Nat
 x:ByteArray
theorem ZjK (Ar Az Al As:Option Addr)(j m f cs:Nat)(a:DSource)(x:ByteArray)(w:World)(s:Zam w Ar Az Al As j m f cs a)(F:a.zones.length<=1000000)(B:a.links.length<=1000000) :
  Does prog 53 [srcV Ar Az Al As j m f cs a,.string x] w (fun v O=>v = .tuple #[.int .i64 (ZeS a (a.links.length+1) x).1,.int .i64 (ZeS a (a.links.length+1) x).2]/\O=[]):=by
 obtain⟨R,t⟩:∃ R,ZeS a (a.links.length+1) x=R:=⟨_,rfl⟩
 rw[t]
 have D:=fun x w' (C:Bel w.heap.size w w')=>ZgG Ar Az Al As j m f cs a x w' (s.up C) F
 have y:=fun x w' (C:Bel w.heap.size w w')=>ZgI Ar Az Al As j m f cs a x w' (s.up C) B
 refine Zaa func53 rfl rfl rfl rfl ?_
 repeat (first|(refine js ?_;(refine bx ?_;intro q))|refine walk ?_)
 refine Zah [(2,.pointer (some ⟨q,0,none⟩))] [.blk q [.slice Ar a.rules.length j,.slice Az a.zones.length m,.slice Al a.links.length f,.slice As a.shifts.length cs] 27] (fun g:ZD6=>[(1,.string g.x),(6,.int .i64 g.k)]) (fun _=>[]) (fun g=>g.k<=a.links.length+1/\ZeS a (a.links.length+1 - g.k) g.x=R) (fun g=>a.links.length+1 - g.k) ⟨0,x⟩ SFA SOA ⟨Nat.zero_le _,t⟩ ?_
 clear t
 rintro⟨k,x⟩ ⟨hk,hi⟩
 dsimp only at hk hi ⊢
 repeat (first|(refine js ?_;(refine bx ?_;intro q))|refine walk ?_)
 refine Zaf rfl (fun u=>?_) (fun u=>?_)
 ·simp only[decide_eq_true_eq,Int.ofNat_le]at u
  rw[show a.links.length+1 - k=(a.links.length - k)+1 by omega,ZeS]at hi
  have d:=D x
  have e:=y x
  have A:=fun i=>ZiF x a.links 0 i
  cases h1:ZaK x a.zones 0 with
  | some i =>
   rw[h1]at hi d
   dsimp only at hi
   subst hi
   have r:decide ((0:Int)<=(i:Int))=true:=dT_ (by omega)
   simp only[ixN]at d
   repeat (first|(apply RL_pu;rfl;(apply ZbF;rfl;rfl;exact r))|(refine js ?_;((refine Zab d ?_)))|refine walk1 ?_)
   exact rtB
  | none =>
   rw[h1]at hi d
   dsimp only at hi
   simp only[ixN]at d
   cases h2:ZaO x a.links 0 with
   | none =>
    rw[h2]at hi e
    dsimp only at hi
    subst hi
    simp only[ixN]at e
    repeat (first|(refine js ?_;(first|(refine Zab d ?_)|(refine Zab e ?_)))|refine walk ?_)
    exact rtB
   | some i =>
    have E:=(A i h2).2
    rw[h2]at hi e
    dsimp only at hi
    simp only[ixN]at e
    have r:decide ((i:Int)<0)=false:=dF_ (by omega)
    have c:i<a.links.length:=by omega
    obtain⟨hna,hca⟩:=s.l.rd i _ (List.getElem?_eq_getElem c)
    rw[List.getElem?_eq_getElem c,Option.map_some,Option.getD_some]at hi
    generalize a.links[i]=z at *
    repeat (first|(apply RL_pu;rfl;(first|exact PuI|(apply Zau;rfl;rfl;exact r)))|(refine js ?_;(first|(refine Zab d ?_)|(refine Zab e ?_)))|refine walk1 ?_)
    exact⟨⟨k+1,z.target⟩,OA,⟨OA,by dsimp only;rw[show a.links.length+1 - (k+1)=a.links.length - k by omega];exact hi⟩,SFA,SOA⟩
 ·simp only[decide_eq_false_iff_not,Int.ofNat_le]at u
  rw[show a.links.length+1 - k=0 by omega,ZeS]at hi
  subst hi
  repeat (first|(refine js ?_;(refine bx ?_;intro q))|refine walk ?_)
  exact rtB
def ZmI:List DZone->Nat->Option Nat
 | [],_=>none
 | z::l,k=>if 60<z.eras.length then some k else ZmI l (k+1)
theorem Zp7:∀ (l:List DZone) (k:Nat),ZmI l k=(l.findIdx? fun z=>decide (60<z.eras.length)).map (·+k)
 | [],_=>rfl
 | z::l,k=>by
  rw[ZmI,List.findIdx?_cons]
  by_cases h:60<z.eras.length
  ·rw[if_pos h,dT_ h];simp
  ·rw[if_neg h,dF_ h,Zp7 l (k+1)]
   simp only[Bool.false_eq_true,if_false,Option.map_map]
   congr 1
   funext x
   simp only[Function.comp]
   omega
theorem ZkE {G:Prop}(h:G:=by(apply Zav;rfl;rfl;first|exact b1|exact b2|exact b4|exact b5)):G:=h
theorem ZzE {G:Prop}(h:G:=by(first|exact PuI|(apply Zav;rfl;rfl;exact b3))):G:=h
theorem Zoc (Ar Az Al As:Option Addr)(j m i cs:Nat)(a:DSource)(w:World)(A:Zam w Ar Az Al As j m i cs a)(C:ZcH a) :
  Does prog 125 [srcV Ar Az Al As j m i cs a] w (fun v O=>v=ptV (Zdi a)/\O=[]):=by
 have D:=C.nz
 unfold Zdi
 rw[show(a.zones.findIdx? fun z=>decide (60<z.eras.length))=ZmI a.zones 0 by rw[Zp7];simp]
 obtain⟨R,q⟩:∃ R,ZmI a.zones 0=R:=⟨_,rfl⟩
 rw[q]
 refine Zaa func125 rfl rfl rfl rfl ?_
 by_cases r:2000<a.rules.length
 ·have b1:decide (2000<(a.rules.length:Int))=true:=dT_ (by omega)
  rw[if_pos r]
  simp only[ptV,plV,Zar.enc]
  repeat (first|(apply RL_pu;rfl;exact ZkE)|(refine js ?_;(refine bx ?_;intro c))|refine walk1 ?_)
  exact rtC
 have b1:decide (2000<(a.rules.length:Int))=false:=dF_ (by omega)
 rw[if_neg r]
 by_cases s:500<a.zones.length
 ·have b2:decide (500<(a.zones.length:Int))=true:=dT_ (by omega)
  rw[if_pos s]
  simp only[ptV,plV,Zar.enc]
  repeat (first|(apply RL_pu;rfl;exact ZkE)|(refine js ?_;(refine bx ?_;intro c))|refine walk1 ?_)
  exact rtC
 have b2:decide (500<(a.zones.length:Int))=false:=dF_ (by omega)
 rw[if_neg s]
 repeat (first|(apply RL_pu;rfl;exact ZkE)|(refine js ?_;(refine bx ?_;intro c))|refine walk1 ?_)
 rename_i bs
 obtain⟨e,f⟩:∃ b2,c=b2:=⟨_,rfl⟩
 rw[f]
 clear f c
 refine Zah [(1,.pointer (some ⟨bs,0,none⟩)),(2,.pointer (some ⟨e,0,none⟩))] [.blk e [.int .i64 0,.int .i64 0,.int .i64 0] 138,.blk bs [.slice Ar a.rules.length j,.slice Az a.zones.length m,.slice Al a.links.length i,.slice As a.shifts.length cs] 27]
  (fun k:Nat=>[(4,.int .i64 k)]) (fun _=>[]) (fun k=>k<=a.zones.length/\ZmI (a.zones.drop k) k=R) (fun k=>a.zones.length - k) 0 SFA SOA ⟨Nat.zero_le _,q⟩ ?_
 clear q
 rintro k ⟨F,d⟩
 repeat (first|(refine js ?_;(refine bx ?_;intro c))|refine walk ?_)
 refine Zaf rfl (fun g=>?_) (fun g=>?_)
 ·simp only[decide_eq_true_eq,Int.ofNat_lt]at g
  obtain⟨hna,y,⟨Ae,E,B,rfl⟩,hca⟩:=A.z k _ (List.getElem?_eq_getElem g)
  rw[Zag g,ZmI]at d
  generalize a.zones[k]=z at *
  by_cases t:60<z.eras.length
  ·have b3:decide (60<(z.eras.length:Int))=true:=dT_ (by omega)
   rw[if_pos t]at d
   subst d
   simp only[ptV,plV,Zar.enc]
   repeat (first|(apply RL_pu;rfl;exact ZzE)|(refine js ?_;(refine bx ?_;intro c))|refine walk1 ?_)
   exact rtC
  ·have b3:decide (60<(z.eras.length:Int))=false:=dF_ (by omega)
   rw[if_neg t]at d
   repeat (first|(apply RL_pu;rfl;exact ZzE)|(refine js ?_;(refine bx ?_;intro c))|refine walk1 ?_)
   exact⟨k+1,OA,⟨OA,d⟩,SFA,SOA⟩
 simp only[decide_eq_false_iff_not,Int.ofNat_lt]at g
 rw[List.drop_eq_nil_of_le (by omega),ZmI]at d
 subst d
 dsimp only
 by_cases u:1000<a.links.length
 ·have b4:decide (1000<(a.links.length:Int))=true:=dT_ (by omega)
  rw[if_pos u]
  simp only[ptV,plV,Zar.enc]
  repeat (first|(apply RL_pu;rfl;exact ZkE)|(refine js ?_;(refine bx ?_;intro c))|refine walk1 ?_)
  exact rtC
 have b4:decide (1000<(a.links.length:Int))=false:=dF_ (by omega)
 rw[if_neg u]
 by_cases x:2000<a.shifts.length
 ·have b5:decide (2000<(a.shifts.length:Int))=true:=dT_ (by omega)
  rw[if_pos x]
  simp only[ptV,plV,Zar.enc]
  repeat (first|(apply RL_pu;rfl;exact ZkE)|(refine js ?_;(refine bx ?_;intro c))|refine walk1 ?_)
  exact rtC
 have b5:decide (2000<(a.shifts.length:Int))=false:=dF_ (by omega)
 rw[if_neg x]
 simp only[ptV,plV,Zar.enc]
 repeat (first|(apply RL_pu;rfl;exact ZkE)|(refine js ?_;(refine bx ?_;intro c))|refine walk1 ?_)
 exact rtC
structure RuG where
 k:Nat
 i:Nat
theorem Zvx {G:Prop}(h:G:=by(first|exact PuI|(apply ZcT;rfl;rfl;exact b1))):G:=h
theorem Zmd (Ar Az Al As:Option Addr)(t u s cs:Nat)(a:DSource)(x:ByteArray)(i:Nat)(w:World)(A:Zam w Ar Az Al As t u s cs a)(B:a.rules.length<=1000000)(c:i<=1000000) :
  Does prog 189 [srcV Ar Az Al As t u s cs a,.string x,.int .i64 i] w (fun v O=>v=plV (Zcb x a.rules i 0)/\O=[]):=by
 obtain⟨R,y⟩:∃ R,Zcb x a.rules i 0=R:=⟨_,rfl⟩
 rw[y]
 refine Zaa func189 rfl rfl rfl rfl ?_
 repeat (first|(refine js ?_;(refine bx ?_;intro d))|refine walk ?_)
 rename_i bs
 obtain⟨m,e⟩:∃ m,d=m:=⟨_,rfl⟩
 rw[e]
 clear e d
 refine Zah [(1,.string x),(3,.pointer (some ⟨bs,0,none⟩)),(6,.pointer (some ⟨m,0,none⟩))] [.blk m [.int .i64 0,.int .i64 0,.int .i64 0] 138,.blk bs [.slice Ar a.rules.length t,.slice Az a.zones.length u,.slice Al a.links.length s,.slice As a.shifts.length cs] 27]
  (fun g:RuG=>[(2,.int .i64 g.i),(7,.int .i64 g.k)]) (fun _=>[]) (fun g=>g.k<=a.rules.length/\g.i<=1000000/\Zcb x (a.rules.drop g.k) g.i g.k=R) (fun g=>a.rules.length - g.k) ⟨0,i⟩ SFA SOA ⟨Nat.zero_le _,c,y⟩ ?_
 clear y
 rintro⟨k,j⟩ ⟨hk,hj,c⟩
 dsimp only at hk hj c ⊢
 repeat (first|(refine js ?_;(refine bx ?_;intro d))|refine walk ?_)
 refine Zaf rfl (fun f=>?_) (fun f=>?_)
 ·simp only[decide_eq_true_eq,Int.ofNat_lt]at f
  obtain⟨hna,hca⟩:=A.r.rd k _ (List.getElem?_eq_getElem f)
  rw[Zag f,Zh0]at c
  generalize a.rules[k]=r at *
  simp only[DRule.enc]at hca
  by_cases q:r.name=x
  ·have b1:(!decide (r.name=x))=false:=by rw[dT_ q];rfl
   rw[if_pos q]at c
   cases j with
   | zero =>
    dsimp only at c
    subst c
    simp only[plV,Zar.enc]
    repeat (first|(apply RL_pu;rfl;exact Zvx)|(refine js ?_;(refine bx ?_;intro d))|refine walk1 ?_)
    exact ret_1 _ [] (.cellB rfl cS_ rfl rfl) .nil ⟨rfl,rfl⟩
   | succ j =>
    dsimp only at c
    have z:decide (((j+1:Nat):Int)=0)=false:=dF_ (by omega)
    repeat (first|(apply RL_pu;rfl;(first|exact Zvx|(apply Zap;rfl;rfl;exact z)))|refine walk1 ?_)
    refine⟨⟨k+1,j⟩,OA,⟨OA,OA,c⟩,?_,SOA⟩
    rw[show((j+1:Nat):Int) - 1=(j:Int) by omega]
    exact SFA
  ·have b1:(!decide (r.name=x))=true:=by rw[dF_ q];rfl
   rw[if_neg q]at c
   repeat (first|(apply RL_pu;rfl;exact Zvx)|(refine js ?_;(refine bx ?_;intro d))|refine walk1 ?_)
   exact⟨⟨k+1,j⟩,OA,⟨OA,hj,c⟩,SFA,SOA⟩
 simp only[decide_eq_false_iff_not,Int.ofNat_lt]at f
 rw[List.drop_eq_nil_of_le (by omega),ZjB]at c
 subst c
 simp only[plV,Zar.enc]
 repeat (first|(refine js ?_;(refine bx ?_;intro d))|refine walk ?_)
 exact ret_1 _ [] (.cellB rfl cS_ rfl rfl) .nil ⟨rfl,rfl⟩
theorem Zvw {G:Prop}(h:G:=by(first|exact PuI|(apply Zap;rfl;rfl;exact hb))):G:=h
theorem ZuO {G:Prop}(h:G:=by first|(apply Qy_y;rfl;exact Zvw)|exact QyA):G:=h
theorem ZqF {G:Prop}(h:G:=by repeat (first|exact QF.nil|(apply QF.mk;rfl;rfl;decide +kernel;exact ZuO))):G:=h
theorem Zvv {G:Prop}(h:G:=by(first|exact PuI|(apply Zau;rfl;rfl;exact bj)|(apply Zci;rfl;rfl;exact by1))):G:=h
theorem Zyw {G:Prop}(h:G:=by first|(apply Qy_y;rfl;exact Zvv)|exact QyA):G:=h
theorem ZzB {G:Prop}(h:G:=by(apply Zau;rfl;rfl;exact bj)):G:=h
theorem ZxF {G G':Prop}(k:G')(h:Hold G'->G:=by intro k9;(first|(apply RL_pu;rfl;exact ZzB)|refine walk1 ?_|(refine jg ?_;(try intro F);(first|(refine ZaH (fun w' hw hO=>hot A3 c3 w' (ZaJ DRule.len (hO.of (A := .row (.slice A3 R.length c3) 68 11 R.length (R.flatMap DRule.enc)) cS_))) ?_)|(refine ZaH (fun w' hw hO=>hle A3 c3 w' (ZaJ DRule.len (hO.of (A := .row (.slice A3 R.length c3) 68 11 R.length (R.flatMap DRule.enc)) cS_))) ?_));first|refine⟨_,EndsA,QFRfS2,?_⟩|refine fin ?_));exact k9.out):G:=h ⟨k⟩
theorem ZDr {G:Prop}(h:G:=by(first|exact ZzB|(apply Zal;rfl;rfl;exact hb2))):G:=h
set_option maxHeartbeats 0 in
theorem Zma (Ar Az Al As:Option Addr)(u z t cs:Nat)(a:DSource)(w:World)(J:Zam w Ar Az Al As u z t cs a)(W:ZcH a) :
  Does prog 127 [srcV Ar Az Al As u z t cs a] w (fun v O=>v=ptV (Za0 a a.shifts [] 0)/\O=[]):=by
 have Z:=W.nr
 have aa:=W.ns
 have X:=J.s.le
 obtain⟨g,e⟩:∃ g,Za0 a a.shifts [] 0=g:=⟨_,rfl⟩
 rw[e]
 refine Zaa func127 rfl rfl rfl rfl ?_
 repeat (first|refine walk ?_|(refine jn ?_;(try intro F);((refine bx ?_;intro f));refine fin ?_))
 rename_i I
 obtain⟨q,hb2⟩:∃ q,f=q:=⟨_,rfl⟩
 rw[hb2]
 clear hb2 f
 refine Zah [(1,.pointer (some ⟨I,0,none⟩)),(2,.pointer (some ⟨q,0,none⟩))] [.blk q [.int .i64 0,.int .i64 0,.int .i64 0] 138,.blk I [.slice Ar a.rules.length u,.slice Az a.zones.length z,.slice Al a.links.length t,.slice As a.shifts.length cs] 27]
  (fun k:Nat=>[(4,.int .i64 k)]) (fun _=>[]) (fun k=>k<=a.shifts.length/\Za0 a (a.shifts.drop k) (a.shifts.take k) k=g) (fun k=>a.shifts.length - k) 0 SFA SOA ⟨Nat.zero_le _,e⟩ ?_
 clear e
 rintro k ⟨hk,c⟩
 repeat (first|refine walk ?_|(refine jn ?_;(try intro F);((refine bx ?_;intro f));refine fin ?_))
 refine Zaf rfl (fun r=>?_) (fun r=>?_)
 ·simp only[decide_eq_true_eq,Int.ofNat_lt]at r
  obtain⟨hna,hca⟩:=J.s.rd k _ (List.getElem?_eq_getElem r)
  have U:=List.take_append_getElem r
  rw[Zag r,Za0]at c
  rw[U]at c
  generalize a.shifts[k]=x at *
  have E:=fun w' (hw:Bel w.heap.size w w')=>Zih Ar Az Al As u z t cs a x w' (J.up hw) Z
  have hot:=fun A3 c3 w' h=>Zh3 A3 c3 (ofB a.rules x) w' h
  have hle:=fun A3 c3 w' h=>Zco A3 c3 (ofB a.rules x) w' h
  generalize ofB a.rules x=R at *
  generalize Zb1 R=od at *
  obtain⟨ox,ob⟩:=od
  dsimp only at c hot
  by_cases K:R=[]
  ·rw[if_pos K]at c
   subst c
   have hb:decide ((R.length:Int)=0)=true:=by rw[K];rfl
   have hnb:=hna
   have hcb:=hca
   simp only[ptV,plV,Zar.enc]
   repeat (first|(apply RL_pu;rfl;exact Zvw)|(apply RD_Q;rfl;rfl;decide +kernel;rfl;rfl;exact ZuO)|refine walk1 ?_|(refine jg ?_;(try intro F);(first|(apply Zad (h:=fun w' hw _=>E w' hw);rfl;rintro v O' ⟨A3,c3,rfl,rfl⟩)|(refine bx ?_;intro f));first|refine⟨_,EndsA,ZqF,?_⟩|refine fin ?_)|(refine jn ?_;(try intro F);(first|(refine bx ?_;intro f)|(apply Zan;exact PuA));refine⟨_,EndsA,ZqF,?_⟩))
   exact rtC
  rw[if_neg K]at c
  have hb:decide ((R.length:Int)=0)=false:=dF_ (fun h=>K (List.eq_nil_of_length_eq_zero (by omega)))
  obtain⟨m,T⟩:∃ m,memB x (a.shifts.take k)=m:=⟨_,rfl⟩
  rw[T]at c
  have ab:(a.shifts.take k).length=k:=by rw[List.length_take];omega
  have N:∀ j,j<k->(a.shifts.take k)[j]?=a.shifts[j]?:=fun j Y=>by rw[List.getElem?_take,if_pos Y]
  generalize a.shifts.take k=L at *
  have hnb:=hna
  have hcb:=hca
  repeat (first|(apply RL_pu;rfl;exact Zvw)|(apply RD_Q;rfl;rfl;decide +kernel;rfl;rfl;exact ZuO)|refine walk1 ?_|(refine jg ?_;(try intro F);(first|(apply Zad (h:=fun w' hw _=>E w' hw);rfl;rintro v O' ⟨A3,c3,rfl,rfl⟩)|(refine bx ?_;intro f));first|refine⟨_,EndsA,ZqF,?_⟩|refine fin ?_)|(refine jn ?_;(try intro F);(first|(refine bx ?_;intro f)|(apply Zan;exact PuA));refine⟨_,EndsA,ZqF,?_⟩))
  generalize f=b5
  refine Zah [(1,.pointer (some ⟨I,0,none⟩)),(2,.pointer (some ⟨q,0,none⟩)),(4,.int .i64 k),(5,.pointer (some ⟨b5,0,none⟩)),(6,.slice A3 R.length c3)] [.blk b5 [.int .i64 4,.int .i64 k,.int .i64 0] 138,.row (.slice A3 R.length c3) 68 11 R.length (R.flatMap DRule.enc),.blk q [.int .i64 0,.int .i64 0,.int .i64 0] 138,.blk I [.slice Ar a.rules.length u,.slice Az a.zones.length z,.slice Al a.links.length t,.slice As a.shifts.length cs] 27]
   (fun j:Nat=>[(7,.int .i64 j)]) (fun _=>[]) (fun j=>j<=k/\memB x (L.drop j)=m) (fun j=>k - j) 0 SFA SOA ⟨Nat.zero_le _,T⟩ ?_
  clear T
  rintro j ⟨Y,d⟩
  by_cases Q:j<k
  ·have bj:decide ((j:Int)<(k:Int))=true:=dT_ (by omega)
   clear hnb hcb
   obtain⟨hnb,hcb⟩:=J.s.rd j _ (List.getElem?_eq_getElem (show j<a.shifts.length by omega))
   have M:=N j Q
   have D:j<L.length:=by omega
   rw[List.getElem?_eq_getElem D,List.getElem?_eq_getElem (show j<a.shifts.length by omega)]at M
   simp only[Option.some.injEq]at M
   rw[Zag D,Zim,M]at d
   generalize a.shifts[j]=y at *
   by_cases H:y=x
   ·have by1:decide (y=x)=true:=dT_ H
    rw[by1,Bool.true_or]at d
    subst d
    rw[if_pos rfl]at c
    subst c
    simp only[ptV,plV,Zar.enc]
    repeat (first|(apply RL_pu;rfl;exact Zvv)|(apply RD_Q;rfl;rfl;decide +kernel;rfl;rfl;exact Zyw)|refine walk1 ?_)
    exact rtC
   ·have by1:decide (y=x)=false:=dF_ H
    rw[by1,Bool.false_or]at d
    repeat (first|(apply RL_pu;rfl;exact Zvv)|(apply RD_Q;rfl;rfl;decide +kernel;rfl;rfl;exact Zyw)|refine walk1 ?_)
    exact⟨j+1,OA,⟨OA,d⟩,SFA,SOA⟩
  ·have bj:decide ((j:Int)<(k:Int))=false:=dF_ (by omega)
   rw[List.drop_eq_nil_of_le (by omega)]at d
   rw[show memB x []=false from rfl]at d
   subst d
   rw[if_neg (by decide)]at c
   generalize Zae R=lt at *
   by_cases S:lt=0
   ·subst S
    cases ob with
    | false =>
     rw[if_pos (.inr rfl)]at c
     subst c
     simp only[ptV,plV,Zar.enc]
     repeat (refine ZxF ?_)
     exact rtC
    | true =>
     rw[if_neg (by rintro(h|h);exact h rfl;cases h)]at c
     repeat (refine ZxF ?_)
     exact⟨k+1,OA,⟨OA,c⟩,SFA,SOA⟩
   ·rw[if_pos (.inl S)]at c
    subst c
    have hb2:(!decide (lt=0))=true:=by rw[dF_ S];rfl
    simp only[ptV,plV,Zar.enc]
    repeat (first|(apply RL_pu;rfl;exact ZDr)|refine walk1 ?_|(refine jg ?_;(try intro F);(first|(refine ZaH (fun w' hw hO=>hot A3 c3 w' (ZaJ DRule.len (hO.of (A := .row (.slice A3 R.length c3) 68 11 R.length (R.flatMap DRule.enc)) cS_))) ?_)|(refine ZaH (fun w' hw hO=>hle A3 c3 w' (ZaJ DRule.len (hO.of (A := .row (.slice A3 R.length c3) 68 11 R.length (R.flatMap DRule.enc)) cS_))) ?_));first|refine⟨_,EndsA,QFRfS3,?_⟩|refine fin ?_))
    exact rtC
 ·simp only[decide_eq_false_iff_not,Int.ofNat_lt]at r
  rw[List.drop_eq_nil_of_le (by omega),Za0]at c
  subst c
  repeat (first|refine walk ?_|(refine jn ?_;(try intro F);((refine bx ?_;intro f));refine fin ?_))
  exact rtC
def RapS:Prop:=∀ (A:Option Addr) (c:Nat) (l:List DRule) (w:World),RdSl w A c DRule.enc 11 l->l.length<=1000000->(ZcE l).2=0->Does prog 191 [.slice A l.length c] w (fun v O=>v=apV (Zen l)/\O=[])
theorem ZnN {G:Prop}(h:G:=by(first|(apply ZaG;rfl;rfl;omega;omega;(intro w' _ hO;exact(Zbc (hO.of (A := .row (.slice An N.length cn) 9 1 N.length (N.flatMap ZaR)) cS_) hg1).1))|(apply ZcU;rfl;(focus repeat' constructor);exact hg1))):G:=h
theorem Zqw {G:Prop}(h:G:=by first|(apply Qy_y;rfl;exact ZnN)|exact QyA):G:=h
theorem ZkC {G:Prop}(h:G:=by repeat (first|exact QF.nil|(apply QF.mk;rfl;rfl;decide +kernel;exact Zqw))):G:=h
theorem ZzA {G:Prop}(h:G:=by(first|exact ZnN|(apply Zal;rfl;rfl;exact hb2))):G:=h
theorem Zyv {G:Prop}(h:G:=by first|(apply Qy_y;rfl;exact ZzA)|exact QyA):G:=h
theorem ZyU {G:Prop}(h:G:=by repeat (first|exact QF.nil|(apply QF.mk;rfl;rfl;decide +kernel;exact Zyv))):G:=h
set_option maxHeartbeats 0 in
theorem Zrj (Ar Az Al As:Option Addr)(I J H cs:Nat)(a:DSource)(w:World)(hP:RapS)(T:Zam w Ar Az Al As I J H cs a)(X:ZcH a)(hV:SavI a) :
  Does prog 126 [srcV Ar Az Al As I J H cs a] w (fun v O=>v=ptV (Zfm a)/\O=[]):=by
 have hn:=X.nr
 have M:=fun w' (c:Bel w.heap.size w w')=>Zof Ar Az Al As I J H cs a w' (T.up c) hn
 have W:=Zfd a.rules []
 have U:=Zfe a.rules []
 unfold Zfm
 generalize ZbM a.rules []=N at *
 simp only[List.length_nil,Nat.zero_add]at U
 obtain⟨E,s⟩:∃ E,ZcJ a.rules N=E:=⟨_,rfl⟩
 rw[s]
 refine Zaa func126 rfl rfl rfl rfl ?_
 repeat (first|refine walk ?_|(refine jg ?_;(try intro F);(first|(apply Zad (h:=fun w' c _=>M w' c);rfl;rintro v O' ⟨An,cn,rfl,rfl⟩)|(refine bx ?_;intro u));refine fin ?_))
 rename_i b1
 obtain⟨Q,hb2⟩:∃ Q,u=Q:=⟨_,rfl⟩
 rw[hb2]
 clear hb2 u
 refine Zah [(1,.pointer (some ⟨b1,0,none⟩)),(2,.pointer (some ⟨Q,0,none⟩)),(4,.slice An N.length cn)] [.row (.slice An N.length cn) 9 1 N.length (N.flatMap ZaR),.blk Q [.int .i64 0,.int .i64 0,.int .i64 0] 138,.blk b1 [.slice Ar a.rules.length I,.slice Az a.zones.length J,.slice Al a.links.length H,.slice As a.shifts.length cs] 27]
  (fun k:Nat=>[(5,.int .i64 k)]) (fun _=>[]) (fun k=>k<=N.length/\ZcJ a.rules (N.drop k)=E) (fun k=>N.length - k) 0 SFA SOA ⟨Nat.zero_le _,s⟩ ?_
 clear M s
 rintro k ⟨hk,d⟩
 repeat (first|refine walk ?_|(refine jn ?_;(try intro F);((refine bx ?_;intro u));refine fin ?_))
 refine Zaf rfl (fun K=>?_) (fun K=>?_)
 ·simp only[decide_eq_true_eq,Int.ofNat_lt]at K
  have hg1:(N.flatMap ZaR)[k*1]?=some (.string N[k]):=by
   have:=ZaD (enc:=ZaR) (fun _=>rfl) N k _ 0 (.string N[k]) (List.getElem?_eq_getElem K) rfl
   simpa using this
  have aa:=W _ (List.getElem_mem K)
  rw[Zag K,ZcJ]at d
  generalize N[k]=x at *
  have ad:x.size<=1000000000:=by
   rcases aa with h|⟨r,S,rfl⟩
   ·cases h
   ·exact(X.rs r S).1
  have z:=fun w' (c:Bel w.heap.size w w')=>Zih Ar Az Al As I J H cs a x w' (T.up c) hn
  have f:=fun w'=>Zs3 x (by omega) w'
  have L:∀ r∈ofB a.rules x,r∈a.rules:=fun r h=>Zov h
  have ab:=Zii a.rules x
  have y:=fun A3 g w' (c:Bel w.heap.size w w') h=>Zop A3 g (ofB a.rules x) w' h (by omega) (fun r S=>⟨hV r (L r S),by have:=(X.rs r (L r S)).2;omega⟩)
  have q:=fun(hz:(ZcE (ofB a.rules x)).2=0) A3 g w' (c:Bel w.heap.size w w') h=>hP A3 g (ofB a.rules x) w' h (by omega) hz
  have t:=fun(i:Nat) (d:i<=1000000) w' (c:Bel w.heap.size w w')=>Zmd Ar Az Al As I J H cs a x i w' (T.up c) hn d
  have Z:=ZpW (ofB a.rules x)
  have Y:=Zi7 (ofB a.rules x)
  unfold Zca at d
  generalize ofB a.rules x=R at *
  cases hsb:setB x with
  | false =>
   rw[hsb]at d f
   rw[if_pos rfl]at d
   dsimp only at d
   have m:=t 0 (Nat.zero_le _)
   generalize Zcb x a.rules 0 0=pl at *
   obtain⟨p1,p2,p3⟩:=pl
   simp only[plV,Zar.enc]at m
   subst d
   simp only[ptV,plV,Zar.enc]
   repeat (first|(apply RL_pu;rfl;exact ZnN)|(apply RD_Q;rfl;rfl;decide +kernel;rfl;rfl;exact Zqw)|refine walk1 ?_|(refine jg ?_;(try intro F);(first|(apply Zad (h:=fun w' c _=>z w' c);rfl;rintro v O' ⟨A3,g,rfl,rfl⟩)|(refine Zab (fun w' _=>f w') ?_)|(refine Zab m ?_)|(refine stA ?_));first|refine⟨_,EndsA,ZkC,?_⟩|refine fin ?_)|(refine jn ?_;(try intro F);(first|(refine bx ?_;intro u)|(apply Zan;exact PuA));refine⟨_,EndsA,ZkC,?_⟩))
   exact rtC
  | true =>
   rw[hsb]at d f
   rw[if_neg (by decide)]at d
   generalize ZcE R=rc at *
   obtain⟨ci,ce⟩:=rc
   dsimp only at d y Z q
   by_cases D:ce=0
   ·subst D
    replace q:=q rfl
    rw[if_neg (fun h=>h rfl)]at d
    generalize Zen R=ap at *
    cases ap with
    | none =>
     simp only[apV,Zac.enc,dEv0]at q
     dsimp only at d
     repeat (first|(apply RL_pu;rfl;exact ZnN)|(apply RD_Q;rfl;rfl;decide +kernel;rfl;rfl;exact Zqw)|refine walk1 ?_|(refine jg ?_;(try intro F);(first|(apply Zad (h:=fun w' c _=>z w' c);rfl;rintro v O' ⟨A3,g,rfl,rfl⟩)|(refine Zab (fun w' _=>f w') ?_)|(refine ZaH (fun w' c hO=>y A3 g w' c (ZaJ DRule.len (hO.of (A := .row (.slice A3 R.length g) 68 11 R.length (R.flatMap DRule.enc)) cS_))) ?_)|(refine ZaH (fun w' c hO=>q A3 g w' c (ZaJ DRule.len (hO.of (A := .row (.slice A3 R.length g) 68 11 R.length (R.flatMap DRule.enc)) cS_))) ?_)|(refine bx ?_;intro u));first|refine⟨_,EndsA,ZkC,?_⟩|refine fin ?_)|(refine jn ?_;(try intro F);(first|(refine bx ?_;intro u)|(apply Zan;exact PuA));refine⟨_,EndsA,ZkC,?_⟩))
     exact⟨k+1,OA,⟨OA,d⟩,SFA,SOA⟩
    | some e =>
     obtain⟨j,hj,ac⟩:=Y e rfl
     obtain⟨ey,er,en⟩:=e
     dsimp only at hj
     subst hj
     simp only[apV,Zac.enc]at q
     simp only[Int.toNat_natCast]at d
     have m:=t j (by omega)
     generalize Zcb x a.rules j 0=pl at *
     obtain⟨p1,p2,p3⟩:=pl
     simp only[plV,Zar.enc]at m
     subst d
     simp only[ptV,plV,Zar.enc]
     repeat (first|(apply RL_pu;rfl;exact ZnN)|(apply RD_Q;rfl;rfl;decide +kernel;rfl;rfl;exact Zqw)|refine walk1 ?_|(refine jg ?_;(try intro F);(first|(apply Zad (h:=fun w' c _=>z w' c);rfl;rintro v O' ⟨A3,g,rfl,rfl⟩)|(refine Zab (fun w' _=>f w') ?_)|(refine ZaH (fun w' c hO=>y A3 g w' c (ZaJ DRule.len (hO.of (A := .row (.slice A3 R.length g) 68 11 R.length (R.flatMap DRule.enc)) cS_))) ?_)|(refine ZaH (fun w' c hO=>q A3 g w' c (ZaJ DRule.len (hO.of (A := .row (.slice A3 R.length g) 68 11 R.length (R.flatMap DRule.enc)) cS_))) ?_)|(refine Zab m ?_)|(refine bx ?_;intro u)|(refine stA ?_));first|refine⟨_,EndsA,ZkC,?_⟩|refine fin ?_)|(refine jn ?_;(try intro F);(first|(refine bx ?_;intro u)|(apply Zan;exact PuA));refine⟨_,EndsA,ZkC,?_⟩))
     exact rtC
   ·rw[if_pos D]at d
    dsimp only at d
    have hb2:(!decide (ce=0))=true:=by rw[dF_ D];rfl
    have m:=t ci (by omega)
    generalize Zcb x a.rules ci 0=pl at *
    obtain⟨p1,p2,p3⟩:=pl
    simp only[plV,Zar.enc]at m
    subst d
    simp only[ptV,plV,Zar.enc]
    repeat (first|(apply RL_pu;rfl;exact ZzA)|(apply RD_Q;rfl;rfl;decide +kernel;rfl;rfl;exact Zyv)|refine walk1 ?_|(refine jg ?_;(try intro F);(first|(apply Zad (h:=fun w' c _=>z w' c);rfl;rintro v O' ⟨A3,g,rfl,rfl⟩)|(refine Zab (fun w' _=>f w') ?_)|(refine ZaH (fun w' c hO=>y A3 g w' c (ZaJ DRule.len (hO.of (A := .row (.slice A3 R.length g) 68 11 R.length (R.flatMap DRule.enc)) cS_))) ?_)|(refine Zab m ?_)|(refine stA ?_));first|refine⟨_,EndsA,ZyU,?_⟩|refine fin ?_)|(refine jn ?_;(try intro F);(first|(refine bx ?_;intro u)|(apply Zan;exact PuA));refine⟨_,EndsA,ZyU,?_⟩))
    exact rtC
 ·simp only[decide_eq_false_iff_not,Int.ofNat_lt]at K
  rw[List.drop_eq_nil_of_le (by omega),ZcJ]at d
  subst d
  repeat (first|refine walk ?_|(refine jn ?_;(try intro F);((refine bx ?_;intro u));refine fin ?_))
  exact rtC
