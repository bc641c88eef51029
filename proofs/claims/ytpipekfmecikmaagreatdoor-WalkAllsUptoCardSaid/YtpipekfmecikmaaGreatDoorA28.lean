/- Parts of the proof. -/
import Derived.Test.YtpipekfmecikmaaGreatDoorA27
set_option maxHeartbeats 0
set_option linter.all false
namespace Go.Proofs.YtpipekfmecikmaaGreatDoor
open Go Go.RowKit Go.Wk Tryz
attribute [local irreducible] W RL Does Zaq Zai retQ Calls Pu Stp RD Qy Ay Zaj
theorem Zd1 (Ar Az Al As:Option Addr)(i j g cs:Nat)(a:DSource)(e:DEra)(w:World)(t:Zam w Ar Az Al As i j g cs a)(x:a.rules.length<=1000000) :
  Does prog 251 [srcV Ar Az Al As i j g cs a,.agg e.enc.toArray] w (ZgC 68 11 DRule.enc (ZaA a.rules e)):=by
 have d:=fun w' (p:Bel w.heap.size w w')=>Zih Ar Az Al As i j g cs a e.set w' (t.up p) x
 unfold ZaA
 obtain⟨y,c,r,set,f,til⟩:=e
 dsimp only at d ⊢
 simp only[DEra.enc]
 refine Zaa func251 rfl rfl rfl rfl ?_
 by_cases m:c=2
 ·subst m
  rw[if_pos rfl]
  generalize ofB a.rules set=R at *
  repeat (first|(refine js ?_;(first|(apply Zad (h:=fun w' p _=>d w' p);rfl;rintro v O' ⟨A3,q,rfl,rfl⟩)|(refine bx ?_;intro s)))|refine walk ?_)
  exact ret_1 _ [.row (.slice A3 R.length q) 68 11 R.length (R.flatMap DRule.enc)] (.tmp rfl) SOA ⟨A3,q,rfl,rfl⟩
 ·rw[if_neg m]
  have u:(!decide (c=2))=true:=by rw[dF_ m];rfl
  refine Zdy 68 11 ?_
  repeat (first|(apply RL_pu;rfl;(apply Zal;rfl;rfl;exact u))|(refine js ?_;(refine bx ?_;intro s))|refine walk1 ?_)
  exact ret_1 _ [.row (.slice none 0 0) 68 11 0 []] (.tmp rfl) SOA ⟨none,0,rfl,rfl⟩
theorem ZzD {G:Prop}(h:G:=by(apply Zap;rfl;rfl;exact b1)):G:=h
theorem ZDs {G:Prop}(h:G:=by(first|(apply ZaG;rfl;rfl;omega;omega;(intro w' _ hO;exact(Zbc (hO.of (A := .row (.slice A3 R.length c3) 68 11 R.length (R.flatMap DRule.enc)) cS_) hg1).1))|(apply Ze3;rfl;(focus repeat' constructor);first|exact hs9|exact hs10))):G:=h
theorem ZCy {G:Prop}(h:G:=by first|(apply Qy_y;rfl;exact ZDs)|exact QyA):G:=h
theorem ZCH {G:Prop}(h:G:=by repeat (exact QF.nil)):G:=h
theorem ZzC {G:Prop}(h:G:=by(first|exact ZzD|(apply Zal;rfl;rfl;exact b2))):G:=h
theorem ZkS (Ar Az Al As:Option Addr)(D E z cs:Nat)(a:DSource)(e:DEra)(w:World)(K:Zam w Ar Az Al As D E z cs a)(J:a.rules.length<=1000000) :
  Does prog 252 [srcV Ar Az Al As D E z cs a,.agg e.enc.toArray] w (StR (ZaB a.rules e)):=by
 have u:=fun w' (I:Bel w.heap.size w w')=>Zd1 Ar Az Al As D E z cs a e w' (K.up I) J
 have L:(ZaA a.rules e).length<=1000000:=by
  unfold ZaA
  split
  ·exact Nat.le_trans (Zii _ _) J
  ·exact Nat.zero_le _
 unfold ZaB
 generalize ZaA a.rules e=R at *
 obtain⟨T,d,save,set,y,til⟩:=e
 dsimp only at u ⊢
 simp only[DEra.enc]at u ⊢
 refine Zaa func252 rfl rfl rfl rfl ?_
 by_cases s:d=1
 ·subst s
  rw[if_pos rfl]
  repeat (first|refine walk ?_|(refine jn ?_;(try intro F);((refine bx ?_;intro f));refine fin ?_))
  exact ret_1 _ [.blk f [.int .i64 save,.string ByteArray.empty] 155] (.tmp rfl) SOA (.inr ⟨f,(save,ByteArray.empty),rfl,rfl,rfl⟩)
 have b1:decide (d=1)=false:=dF_ s
 rw[if_neg s]
 by_cases t:d=2
 ·subst t
  rw[if_pos rfl]
  repeat (first|(apply RL_pu;rfl;exact ZzD)|refine walk1 ?_|(refine jg ?_;(try intro F);(first|(apply Zad (h:=fun w' I _=>u w' I);rfl;rintro v O' ⟨A3,c3,rfl,rfl⟩)|(refine bx ?_;intro f));first|refine⟨_,EndsA,QFRfR1,?_⟩|refine fin ?_))
  refine Zdy 155 2 ?_
  refine Zah [(6,.slice A3 R.length c3)] [.row (.slice A3 R.length c3) 68 11 R.length (R.flatMap DRule.enc)] (fun g:StG=>[(5,.slice g.A g.m g.c),(7,.int .i64 g.k)]) (fun g=>[.row (.slice g.A g.m g.c) 155 2 g.m g.ys])
   (fun g=>g.k<=R.length/\g.m=g.k/\g.ys=((R.take g.k).map fun r=>(r.save,r.letter)).flatMap Za6) (fun g=>R.length - g.k) ⟨0,none,0,0,[]⟩ SFA SOA ⟨Nat.zero_le _,rfl,rfl⟩ ?_
  rintro⟨k,A1,c1,m,ys⟩ ⟨hkl,hm,hy⟩
  dsimp only at hkl hm hy ⊢
  repeat (first|refine walk ?_|(refine jn ?_;(try intro F);((refine bx ?_;intro f));refine fin ?_))
  refine Zaf rfl (fun x=>?_) (fun x=>?_)
  ·simp only[decide_eq_true_eq,Int.ofNat_lt]at x
   have hg1:=ZaD DRule.len R k _ 0 _ (List.getElem?_eq_getElem x) rfl
   have q:∀ j v,(DRule.enc R[k])[j]?=some v->(R.flatMap DRule.enc)[k*11+j]?=some v:=fun j v S=>ZaD DRule.len R k _ j v (List.getElem?_eq_getElem x) S
   have hs9:=q 9 _ rfl
   have hs10:=q 10 _ rfl
   have H:=List.take_append_getElem x
   generalize R[k]=r at *
   simp only[DRule.enc]at q hg1
   repeat (first|(apply RD_Q;rfl;rfl;decide +kernel;rfl;rfl;exact ZCy)|refine walk1 ?_|(refine jn ?_;(try intro F);(first|(apply ZaC;rfl;rfl;(intro A' c';(focus repeat' constructor));(intro w' _ hO;exact Zbr (hO.of cS_));rfl;rfl;(simp only[maxLen];omega);omega;intro A' c' M N Q)|(apply Zan;exact PuA));refine⟨_,EndsA,ZCH,?_⟩)|(apply RD_W;rfl;intro f))
   exact⟨⟨k+1,A',c',m+1,ys++[.int .i64 r.save,.string r.letter]⟩,OA,⟨OA,OA,by dsimp only;rw[hy,<- H];simp[Za6]⟩,SFA,SOA⟩
  ·obtain rfl:k=R.length:=by simp only[decide_eq_false_iff_not,Int.ofNat_lt]at x;omega
   rw[List.take_length]at hy
   subst hm hy
   repeat (first|refine walk ?_|(refine jn ?_;(try intro F);((refine bx ?_;intro f));refine fin ?_))
   exact ret_1 _ [.row (.slice A1 R.length c1) 155 2 R.length ((R.map fun r=>(r.save,r.letter)).flatMap Za6)] (.tmp rfl) SOA (.inl ⟨A1,c1,by rw[List.length_map],by rw[List.length_map]⟩)
 have b2:(!decide (d=2))=true:=by rw[dF_ t];rfl
 rw[if_neg t]
 repeat (first|(apply RL_pu;rfl;exact ZzC)|refine walk1 ?_|(refine jn ?_;(try intro F);(first|(refine bx ?_;intro f)|(apply Zan;first|exact ZzC|exact PuA));first|refine⟨_,EndsA,QFRfR3,?_⟩|refine fin ?_))
 exact ret_1 _ [.blk f [.int .i64 0,.string ByteArray.empty] 155] (.tmp rfl) SOA (.inr ⟨f,(0,ByteArray.empty),rfl,rfl,rfl⟩)
theorem Zhi (Ar Az Al As:Option Addr)(d f c cs:Nat)(a:DSource)(e:DEra)(w:World)(i:Zam w Ar Az Al As d f c cs a)(k:a.rules.length<=1000000) :
  Does prog 252 [srcV Ar Az Al As d f c cs a,.agg e.enc.toArray] w (ZgC 155 2 Za6 (ZaB a.rules e)) :=
 (ZkS Ar Az Al As d f c cs a e w i k).monoH fun v O base w' j g=>by
  rcases j with h|⟨b,x,hl,rfl,rfl⟩
  ·exact⟨O,h,g⟩
  ·rw[hl]
   exact⟨_,⟨some ⟨b,0,none⟩,1,rfl,rfl⟩,g.toRow (m:=1) 2 rfl (by decide) (by simpa using Upd.here)⟩
def inO (x:Int):Bool:=decide (-54000<=x)&&decide (x<=54000)
theorem ZjH (x:Int)(w:World):Does prog 253 [.int .i64 x] w (fun v O=>v = .bool (inO x)/\O=[]):=by
 refine Zaa func253 rfl rfl rfl rfl ?_
 repeat' (first|refine walk ?_|(refine Zas rfl rfl rfl (fun a=>?_) (fun a=>?_)))
 all_goals (refine ret_1 _ [] (.tmp rfl) .nil ⟨?_,rfl⟩;first|(simp_all [inO];done)|(simp_all [inO];omega))
end Go.Proofs.YtpipekfmecikmaaGreatDoor
namespace Go.Wk
open Go Go.RowKit
section
variable {P:Program}{n:Nat}{wr:World}{fr:Fr}{O:List It}{ty:TypeId}
theorem ZBi {t t':TypeId}{x y:Operand}{i j:Int}(a:ev fr x=some (.int .u8 i))(b:ev fr y=some (.int .u8 j))(h:0<=i - j/\i - j<=255):Pu P n wr fr O (.binOp .sub t x y t') ty (.int .u8 (i - j)):=by
 have:=Zpl (P:=P) (n:=n) (wr:=wr) (O:=O) (ty:=ty) (t:=t) (t':=t') a b
 rwa[IntWalk.u8_in _ h]at this
theorem catB (a b:List UInt8):(⟨a.toArray⟩++⟨b.toArray⟩:ByteArray)=⟨(a++b).toArray⟩:=by
 apply ByteArray.ext
 simp
theorem ZlI {t t':TypeId}{x y:Operand}{a b:List UInt8}(c:ev fr x=some (.string ⟨a.toArray⟩))(d:ev fr y=some (.string ⟨b.toArray⟩))(h:a.length+b.length<=9223372036854775807):Pu P n wr fr O (.binOp .add t x y t') ty (.string ⟨(a++b).toArray⟩):=by
 have:=Zg9 (P:=P) (n:=n) (wr:=wr) (O:=O) (ty:=ty) (t:=t) (t':=t') c d h
 rwa[catB]at this
end
theorem Zlk (n:Int):(dig2 n).length=2:=rfl
def twoR (l:List UInt8)(i:Nat):Option Int :=
 match l[i]?,l[i+1]? with
 | some c,some d=>if digC c.toNat&&digC d.toNat then some (10*((c.toNat:Int) - 48)+((d.toNat:Int) - 48)) else none
 | _,_=>none
def Zdk (l:List UInt8):List Int->Nat->Int->Option Int
 | [],_,off=>some off
 | u::us,i,off=>if l.length<=1+2*i then some off else match twoR l (1+2*i) with|none=>none|some n=>Zdk l us (i+1) (off+n*u)
def endR (l:List UInt8):Option Int->Option Int
 | none=>none
 | some o=>if l.isEmpty\/ZaM (if l.head?=some 45 then -o else o)≠l then none else some (if l.head?=some 45 then -o else o)
def Ztf (l:List UInt8):Option Int:=endR l (Zdk l [3600,60,1] 0 0)
theorem Zsy (a:Int):ZaM a=[]\/(ZaM a).length % 2=1:=by
 unfold ZaM
 split
 ·exact .inl rfl
 ·right
  dsimp only
  simp only[List.length_cons,List.length_append,Zlk]
  repeat' split
  all_goals simp[Zlk]
theorem ZwG (c d:UInt8):numU [c,d]=if digC c.toNat&&digC d.toNat then some (10*((c.toNat:Int) - 48)+((d.toNat:Int) - 48)) else none:=by
 unfold numU
 rw[if_neg (by simp)]
 have h:∀ c:UInt8,(decide (48<=c)&&decide (c<=57))=digC c.toNat:=fun c=>by
  unfold digC
  rw[Bool.eq_iff_iff]
  simp only[Bool.and_eq_true,decide_eq_true_eq,UInt8.le_iff_toNat_le]
  constructor
  ·intro ⟨h1,h2⟩
   have a:(48:UInt8).toNat=48:=rfl
   have b:(57:UInt8).toNat=57:=rfl
   omega
  ·intro ⟨h1,h2⟩
   have a:(48:UInt8).toNat=48:=rfl
   have b:(57:UInt8).toNat=57:=rfl
   omega
 simp only[List.all_cons,List.all_nil,Bool.and_true,h,List.foldl_cons,List.foldl_nil]
 split
 ·congr 1;omega
 ·rfl
theorem Zig (l:List UInt8)(d:l.length % 2=1):∀ (us:List Int) (i:Nat) (a:Int),Zc6 l us i a=Zdk l us i a
 | [],_,_=>rfl
 | u::us,i,a=>by
  rw[Zc6,Zdk]
  by_cases h:l.length<=1+2*i
  ·rw[if_pos h,if_pos h]
  ·rw[if_neg h,if_neg h]
   have b:1+2*i<l.length:=by omega
   have c:1+2*i+1<l.length:=by omega
   have e:(l.drop (1+2*i)).take 2=[l[1+2*i],l[1+2*i+1]]:=by
    rw[List.drop_eq_getElem_cons b,List.take_succ_cons,List.drop_eq_getElem_cons c,List.take_succ_cons,List.take_zero]
   rw[e,ZwG]
   unfold twoR
   rw[List.getElem?_eq_getElem b,List.getElem?_eq_getElem c]
   dsimp only
   generalize (if (digC l[1+2*i].toNat&&digC l[1+2*i+1].toNat)=true then some (10*((l[1+2*i].toNat:Int) - 48)+((l[1+2*i+1].toNat:Int) - 48)) else none)=q
   cases q with
   | none=>rfl
   | some n=>exact Zig l d us (i+1) _
theorem Zng {l:List UInt8}(b:l.length % 2=0)(o:Option Int):endR l o=none:=by
 cases o with
 | none=>rfl
 | some o =>
  unfold endR
  dsimp only
  rw[if_pos]
  by_cases a:l=[]
  ·left;rw[a];rfl
  ·right
   intro e
   rcases Zsy (if l.head?=some 45 then -o else o) with h|h
   ·rw[h]at e;exact a e.symm
   ·rw[e]at h;omega
theorem Zrz (l:List UInt8):ZaV l=endR l (Zc6 l [3600,60,1] 0 0):=by
 unfold ZaV endR
 cases Zc6 l [3600,60,1] 0 0 <;> rfl
theorem Zte (l:List UInt8):Ztf l=ZaV l:=by
 rw[Zrz,Ztf]
 by_cases h:l.length % 2=1
 ·rw[Zig l h]
 ·rw[Zng (by omega),Zng (by omega)]
theorem ZdC {n:Int}(h:n <= -86400\/86400<=n):ZaM n=[]:=by unfold ZaM;rw[if_pos h]
end Go.Wk
namespace Go.Proofs.YtpipekfmecikmaaGreatDoor
open Go Go.RowKit Go.Wk Tryz
attribute [local irreducible] W RL Does Zaq Zai retQ Calls Pu Stp RD Qy Ay Zaj
theorem Zmi (n:Int)(h:0<=n/\n<=9)(w:World):Does prog 260 [.int .i64 n] w (fun v O=>v = .string ⟨[UInt8.ofNat (48+n.toNat)].toArray⟩/\O=[]):=by
 have c:(⟨#[48,49,50,51,52,53,54,55,56,57]⟩:ByteArray).extract n.toNat (n+1).toNat=⟨[UInt8.ofNat (48+n.toNat)].toArray⟩:=by
  have b:n=0\/n=1\/n=2\/n=3\/n=4\/n=5\/n=6\/n=7\/n=8\/n=9:=by omega
  rcases b with rfl|rfl|rfl|rfl|rfl|rfl|rfl|rfl|rfl|rfl <;> decide +kernel
 have a:decide (n<10)=true:=dT_ (by omega)
 refine Zaa func260 rfl rfl rfl rfl ?_
 repeat (first|(apply RL_pu;rfl;(first|(apply Zau;rfl;rfl;exact a)|(apply Zfk;rfl;rfl;rfl;omega;omega;(show n+1<=10;omega);exact c)))|refine walk1 ?_)
 exact rtA
theorem ZdG (n:Int)(h:0<=n/\n<=99)(w:World):Does prog 204 [.int .i64 n] w (fun v O=>v = .string ⟨(dig2 n).toArray⟩/\O=[]):=by
 have a:=fun w'=>Zmi (n / 10) ⟨by omega,by omega⟩ w'
 have b:=fun w'=>Zmi (n % 10) ⟨by omega,by omega⟩ w'
 refine Zaa func204 rfl rfl rfl rfl ?_
 repeat (first|(apply RL_pu;rfl;(first|(apply Pu_quo64;rfl;rfl;omega;omega;decide)|(apply Pu_remE;rfl;rfl;omega;decide)|(apply ZlI;rfl;rfl;(simp only[List.length_cons,List.length_nil];omega))))|(refine js ?_;(first|(refine Zab (fun w' _=>a w') ?_)|(refine Zab (fun w' _=>b w') ?_)))|refine walk1 ?_)
 exact rtA
theorem ZzI {G:Prop}(h:G:=by(apply Zau;rfl;rfl;exact b1)):G:=h
theorem ZDB {G:Prop}(h:G:=by(first|(apply Pu_quo64;rfl;rfl;omega;omega;decide)|(apply Pu_remE;rfl;rfl;omega;decide)|(apply ZlI;rfl;rfl;(simp only[List.length_cons,List.length_append,List.length_nil,Zlk];omega))|(apply Zau;rfl;rfl;first|exact b1|exact b3)|(apply Zav;rfl;rfl;exact b2)|(apply Zgz;rfl;(constructor <;> omega))|(apply Zal;rfl;rfl;first|exact c1|exact c2))):G:=h
theorem Zjz {G G':Prop}(k:G')(h:Hold G'->G:=by intro k9;(first|(apply RL_pu;rfl;exact ZDB)|(refine js ?_;(first|(refine Zab (fun w' _=>h1 w') ?_)|(refine Zab (fun w' _=>h2 w') ?_)|(refine Zab (fun w' _=>h3 w') ?_)))|refine walk1 ?_);exact k9.out):G:=h ⟨k⟩
theorem ZcW (a:Int)(w:World):Does prog 138 [.int .i64 a] w (fun v O=>v = .string ⟨(ZaM a).toArray⟩/\O=[]):=by
 refine Zaa func138 rfl rfl rfl rfl ?_
 by_cases e:a < -86399
 ·have b1:decide (a < -86399)=true:=dT_ e
  rw[ZdC (.inl (by omega))]
  repeat (first|(apply RL_pu;rfl;exact ZzI)|refine walk1 ?_)
  exact rtA
 have b1:decide (a < -86399)=false:=dF_ e
 by_cases d:86399<a
 ·have b2:decide (86399<a)=true:=dT_ d
  rw[ZdC (.inr (by omega))]
  repeat (first|(apply RL_pu;rfl;(first|exact ZzI|(apply Zav;rfl;rfl;exact b2)))|refine walk1 ?_)
  exact rtA
 have b2:decide (86399<a)=false:=dF_ d
 have g:ZaM a=(if a<0 then (45:UInt8) else 43)::(dig2 ((if a<0 then -a else a) / 3600)++(if (if a<0 then -a else a) % 3600=0 then [] else dig2 ((if a<0 then -a else a) / 60 % 60))++(if (if a<0 then -a else a) % 60=0 then [] else dig2 ((if a<0 then -a else a) % 60))):=by
  unfold ZaM
  rw[if_neg (by omega)]
 rw[g]
 by_cases f:a<0
 ·have b3:decide (a<0)=true:=dT_ f
  simp only[if_pos f]
  obtain⟨x,hx⟩:∃ x,-a=x:=⟨_,rfl⟩
  rw[hx]
  have h1:=fun w'=>ZdG (x / 3600) ⟨by omega,by omega⟩ w'
  have h2:=fun w'=>ZdG (x / 60 % 60) ⟨by omega,by omega⟩ w'
  have h3:=fun w'=>ZdG (x % 60) ⟨by omega,by omega⟩ w'
  by_cases c:x % 3600=0
  ·have c1:(!decide (x % 3600=0))=false:=by rw[dT_ c];rfl
   have b:x % 60=0:=by omega
   have c2:(!decide (x % 60=0))=false:=by rw[dT_ b];rfl
   rw[if_pos c,if_pos b]
   subst hx
   repeat refine Zjz ?_
   exact ret_1 _ [] (.tmp rfl) .nil ⟨by simp,rfl⟩
  ·have c1:(!decide (x % 3600=0))=true:=by rw[dF_ c];rfl
   rw[if_neg c]
   by_cases b:x % 60=0
   ·have c2:(!decide (x % 60=0))=false:=by rw[dT_ b];rfl
    rw[if_pos b]
    subst hx
    repeat refine Zjz ?_
    exact ret_1 _ [] (.tmp rfl) .nil ⟨by simp,rfl⟩
   ·have c2:(!decide (x % 60=0))=true:=by rw[dF_ b];rfl
    rw[if_neg b]
    subst hx
    repeat refine Zjz ?_
    exact ret_1 _ [] (.tmp rfl) .nil ⟨by simp,rfl⟩
 ·have b3:decide (a<0)=false:=dF_ f
  simp only[if_neg f]
  have h1:=fun w'=>ZdG (a / 3600) ⟨by omega,by omega⟩ w'
  have h2:=fun w'=>ZdG (a / 60 % 60) ⟨by omega,by omega⟩ w'
  have h3:=fun w'=>ZdG (a % 60) ⟨by omega,by omega⟩ w'
  by_cases c:a % 3600=0
  ·have c1:(!decide (a % 3600=0))=false:=by rw[dT_ c];rfl
   have b:a % 60=0:=by omega
   have c2:(!decide (a % 60=0))=false:=by rw[dT_ b];rfl
   rw[if_pos c,if_pos b]
   repeat refine Zjz ?_
   exact ret_1 _ [] (.tmp rfl) .nil ⟨by simp,rfl⟩
  ·have c1:(!decide (a % 3600=0))=true:=by rw[dF_ c];rfl
   rw[if_neg c]
   by_cases b:a % 60=0
   ·have c2:(!decide (a % 60=0))=false:=by rw[dT_ b];rfl
    rw[if_pos b]
    repeat refine Zjz ?_
    exact ret_1 _ [] (.tmp rfl) .nil ⟨by simp,rfl⟩
   ·have c2:(!decide (a % 60=0))=true:=by rw[dF_ b];rfl
    rw[if_neg b]
    repeat refine Zjz ?_
    exact ret_1 _ [] (.tmp rfl) .nil ⟨by simp,rfl⟩
def optN:Option Int->Int
 | some n=>n
 | none => -1
theorem ZqU {G:Prop}(h:G:=by(first|(apply Zeo;rfl;rfl;(constructor <;> omega))|(apply Za3;rfl;rfl;omega;omega;first|exact hg1|exact hg2)|(apply Zau;rfl;rfl;first|exact b1|exact b3)|(apply Zav;rfl;rfl;first|exact b0|exact b2|exact b4)|(apply ZBi;rfl;rfl;(constructor <;> omega))|(apply Pu_conv64;rfl;(constructor <;> omega)))):G:=h
theorem ZCz {G:Prop}(h:G:=by first|(apply Qy_y;rfl;exact ZqU)|exact QyA):G:=h
theorem ZCL {G:Prop}(h:G:=by repeat (exact QF.nil)):G:=h
theorem ZlW {G G':Prop}(k:G')(h:Hold G'->G:=by intro k9;(first|(apply RL_pu;rfl;exact ZqU)|refine walk1 ?_);exact k9.out):G:=h ⟨k⟩
theorem Zrh (s:ByteArray)(i:Nat)(t:(s.size:Int)<=9223372036854775000)(r:(i:Int)<=9223372036854775000)(w:World):Does prog 284 [.string s,.int .i64 i] w (fun v O=>v = .int .i64 (optN (twoR s.data.toList i))/\O=[]):=by
 have m:s.data.toList.length=s.size:=rfl
 unfold twoR
 refine Zaa func284 rfl rfl rfl rfl ?_
 by_cases b:s.size<i+2
 ·have b0:decide ((s.size:Int)<(i:Int)+2)=true:=dT_ (by omega)
  have a:s.data.toList[i+1]?=none:=List.getElem?_eq_none (by omega)
  rw[a]
  rw[show(match s.data.toList[i]?,(none:Option UInt8) with
   | some c,some d=>if digC c.toNat&&digC d.toNat then some (10*((c.toNat:Int) - 48)+((d.toNat:Int) - 48)) else none
   | _,_=>none)=none by cases s.data.toList[i]? <;> rfl]
  repeat refine ZlW ?_
  exact rtA
 have b0:decide ((s.size:Int)<(i:Int)+2)=false:=dF_ (by omega)
 have hg1:s.data.toList.getD ((i:Int)).toNat 0=s.data.toList[i]:=Zdw (by omega)
 have hg2:s.data.toList.getD ((i:Int)+1).toNat 0=s.data.toList[i+1]:=by rw[show((i:Int)+1).toNat=i+1 by omega];exact Zdw (by omega)
 rw[List.getElem?_eq_getElem (show i<s.data.toList.length by omega),List.getElem?_eq_getElem (show i+1<s.data.toList.length by omega)]
 dsimp only
 generalize s.data.toList[i]=c at *
 generalize s.data.toList[i+1]=d at *
 have p:=c.toNat_lt
 have q:=d.toNat_lt
 unfold digC
 by_cases e:c.toNat<48
 ·have b1:decide ((c.toNat:Int)<48)=true:=dT_ (by omega)
  rw[dF_ (show ¬ (48:Int)<=(c.toNat:Int) by omega)]
  repeat refine ZlW ?_
  exact rtA
 have b1:decide ((c.toNat:Int)<48)=false:=dF_ (by omega)
 by_cases f:57<c.toNat
 ·have b2:decide (57<(c.toNat:Int))=true:=dT_ (by omega)
  rw[dF_ (show ¬ (c.toNat:Int)<=57 by omega),Bool.and_false]
  repeat refine ZlW ?_
  exact rtA
 have b2:decide (57<(c.toNat:Int))=false:=dF_ (by omega)
 by_cases g:d.toNat<48
 ·have b3:decide ((d.toNat:Int)<48)=true:=dT_ (by omega)
  rw[dF_ (show ¬ (48:Int)<=(d.toNat:Int) by omega),Bool.false_and,Bool.and_false]
  repeat refine ZlW ?_
  exact rtA
 have b3:decide ((d.toNat:Int)<48)=false:=dF_ (by omega)
 by_cases j:57<d.toNat
 ·have b4:decide (57<(d.toNat:Int))=true:=dT_ (by omega)
  rw[dF_ (show ¬ (d.toNat:Int)<=57 by omega),Bool.and_false,Bool.and_false]
  repeat refine ZlW ?_
  exact rtA
 have b4:decide (57<(d.toNat:Int))=false:=dF_ (by omega)
 rw[dT_ (show(48:Int)<=(c.toNat:Int) by omega),dT_ (show(c.toNat:Int)<=57 by omega),dT_ (show(48:Int)<=(d.toNat:Int) by omega),dT_ (show(d.toNat:Int)<=57 by omega)]
 rw[show optN (if (true&&true&&(true&&true))=true then some (10*((c.toNat:Int) - 48)+((d.toNat:Int) - 48)) else none)=10*((c.toNat:Int) - 48)+((d.toNat:Int) - 48) from rfl]
 repeat (first|(apply RL_pu;rfl;exact ZqU)|(apply RD_Q;rfl;rfl;decide +kernel;rfl;rfl;exact ZCz)|refine walk1 ?_|(refine jn ?_;(try intro F);(apply Zan;first|exact ZqU|exact PuA);first|refine⟨_,EndsA,ZCL,?_⟩|refine fin ?_))
 exact rtA
end Go.Proofs.YtpipekfmecikmaaGreatDoor
namespace Go.Wk
open Go Go.RowKit
def ZhQ:Nat->Int
 | 0=>3600
 | 1=>60
 | 2=>1
 | _=>0
theorem ZpN {i:Nat}(h:i<3):∃ us,([3600,60,1]:List Int).drop i=ZhQ i::us/\us=([3600,60,1]:List Int).drop (i+1)/\ZhQ (i+1)=ZhQ i / 60/\1<=ZhQ i/\ZhQ i<=3600:=by
 have:i=0\/i=1\/i=2:=by omega
 rcases this with rfl|rfl|rfl
 ·exact⟨_,rfl,rfl,by decide,by decide,by decide⟩
 ·exact⟨_,rfl,rfl,by decide,by decide,by decide⟩
 ·exact⟨_,rfl,rfl,by decide,by decide,by decide⟩
theorem ZAe {l:List UInt8}{i:Nat}{n:Int}(h:twoR l i=some n):0<=n/\n<=99:=by
 unfold twoR at h
 split at h
 ·rename_i c d _ _
  split at h
  ·rename_i a
   unfold digC at a
   simp only[Bool.and_eq_true,decide_eq_true_eq]at a
   simp only[Option.some.injEq]at h
   omega
  ·cases h
 ·cases h
theorem Zce (l:List UInt8)(s:ByteArray):(⟨l.toArray⟩:ByteArray)=s↔l=s.data.toList:=by
 constructor
 ·intro h;rw[<- h]
 ·intro h;rw[h]
def oneX (t:List UInt8):List UInt8 × Int:=if t=[] then ([],3) else (t,0)
def twoX (t u:List UInt8):List UInt8 × Int:=if t=[]\/u=[] then ([],3) else (t++47::u,0)
theorem ZhC {n:Int}(h:ZcQ n=false):ZaM n=[]:=ZdC (by
 unfold ZcQ at h
 simp only[Bool.and_eq_false_iff,decide_eq_false_iff_not]at h
 omega)
def jN (off:Int)(s:List Int):List UInt8 × Int:=match Zd5 off s with|none=>([],3)|some r=>(Zc2 r,0)
theorem ZxX (a s:Int):jN a [s]=oneX (ZaM (a+s)):=by
 unfold jN oneX Zd5 Zd5
 by_cases h:ZaM (a+s)=[]
 ·rw[if_pos (.inr h),if_pos h]
 ·rw[if_neg (fun e=>e.elim (fun e=>h (ZhC e)) h),if_neg h]
  rfl
theorem ZBT (a x:Int):jN a [0,x]=twoX (ZaM a) (ZaM (a+x)):=by
 unfold jN twoX Zd5 Zd5 Zd5
 rw[Int.add_zero]
 by_cases h:ZaM a=[]
 ·rw[if_pos (.inr h),if_pos (.inl h)]
 ·rw[if_neg (fun e=>e.elim (fun e=>h (ZhC e)) h)]
  by_cases b:ZaM (a+x)=[]
  ·rw[if_pos (.inr b),if_pos (.inr b)]
  ·rw[if_neg (fun e=>e.elim (fun e=>b (ZhC e)) b),if_neg (fun e=>e.elim h b)]
   rfl
theorem ZrP (e:DEra)(l:List DRule):Zd9 e l=if e.kind=0 then oneX (ZaM e.off) else if e.kind=1 then oneX (ZaM (e.off+e.save)) else if e.kind=2 then (if (Zb1 l).2 then twoX (ZaM e.off) (ZaM (e.off+(Zb1 l).1)) else if (l.any fun r => !decide (r.save=0)) then ([],14) else oneX (ZaM e.off)) else ([],2):=by
 have a:=ZxX e.off 0
 rw[Int.add_zero]at a
 rw[<- a,<- ZxX e.off e.save,<- ZBT e.off (Zb1 l).1]
 rfl
end Go.Wk
namespace Go.Proofs.YtpipekfmecikmaaGreatDoor
open Go Go.RowKit Go.Wk Tryz
attribute [local irreducible] W RL Does Zaq Zai retQ Calls Pu Stp RD Qy Ay Zaj
def parV (o:Option Int):Value := .tuple #[.int .i64 (o.getD 0),.int .i64 (if o.isSome then 0 else 5)]
theorem ZqT {G:Prop}(h:G:=by(first|(apply Zva;rfl;rfl;exact hm;omega)|(apply Pu_quo64;rfl;rfl;omega;omega;decide)|(apply Zau;rfl;rfl;first|exact bl|exact bn)|(apply Zav;rfl;rfl;first|exact bu|exact bs))):G:=h
theorem ZDA {G:Prop}(h:G:=by(first|exact ZqT|(apply Za3;rfl;rfl;decide;omega;exact hgc)|(apply Zap;rfl;rfl;exact bc)|(apply Zgz;rfl;(constructor <;> omega))|(apply Zci;rfl;rfl;exact be)|(apply ZcT;rfl;rfl;exact bt))):G:=h
theorem ZpM {G G':Prop}(k:G')(h:Hold G'->G:=by intro k9;(first|refine und ?_|(apply RL_pu;rfl;exact ZDA)|(refine js ?_;(refine Zab (fun w' _=>ht w') ?_))|refine walk1 ?_);exact k9.out):G:=h ⟨k⟩
set_option maxHeartbeats 0 in
theorem Zoe (s:ByteArray)(X:s.size<=1000000000000)(w:World):Does prog 259 [.string s] w (fun v O=>v=parV (ZaV s.data.toList)/\O=[]):=by
 have Q:s.data.toList.length=s.size:=rfl
 rw[<- Zte]
 unfold Ztf
 obtain⟨R,J⟩:∃ R,Zdk s.data.toList [3600,60,1] 0 0=R:=⟨_,rfl⟩
 rw[J]
 refine Zaa func259 rfl rfl rfl rfl ?_
 repeat (refine walk ?_)
 refine Zah [(0,.string s)] [] (fun g:Nat × Int=>[(4,.int .i64 g.2),(5,.int .i64 (ZhQ g.1)),(6,.int .i64 ((1+2*g.1:Nat):Int))]) (fun _=>[]) (fun g=>g.1<=3/\Zdk s.data.toList (([3600,60,1]:List Int).drop g.1) g.1 g.2=R/\0<=g.2/\g.2<=g.1*360000) (fun g=>3 - g.1) (0,0) SFA SOA ⟨by omega,J,Int.le_refl _,by decide⟩ ?_
 clear J
 rintro⟨i,off⟩ ⟨h1,hi,h3,h4⟩
 dsimp only at h1 hi h3 h4 ⊢
 by_cases d:1+2*i<s.size/\i<3
 ·obtain⟨W,r⟩:=d
  obtain⟨us,y,L,M,V,N⟩:=ZpN r
  rw[y,Zdk,if_neg (by omega)]at hi
  have bl:decide (((1+2*i:Nat):Int)<(s.size:Int))=true:=dT_ (by omega)
  have bu:decide (0<ZhQ i)=true:=dT_ (by omega)
  have ht:=fun w'=>Zrh s (1+2*i) (by omega) (by omega) w'
  have K:=fun n => @ZAe s.data.toList (1+2*i) n
  generalize twoR s.data.toList (1+2*i)=o at *
  cases o with
  | none =>
   dsimp only at hi
   subst hi
   simp only[optN]at ht
   have bn:decide ((-1:Int)<0)=true:=rfl
   repeat (first|(apply RL_pu;rfl;exact ZqT)|(refine js ?_;(refine Zab (fun w' _=>ht w') ?_))|refine walk1 ?_)
   exact rtB
  | some n =>
   have E:=K n rfl
   dsimp only at hi
   simp only[optN]at ht
   have bn:decide (n<0)=false:=dF_ (by omega)
   obtain⟨m,hm⟩:∃ m,n*ZhQ i=m:=⟨_,rfl⟩
   have U:0<=m/\m<=356400:=by
    rw[<- hm]
    refine⟨Int.mul_nonneg E.1 (by omega),?_⟩
    have:n*ZhQ i<=99*3600:=Int.mul_le_mul E.2 N (by omega) (by decide)
    omega
   rw[hm,L]at hi
   generalize hun:ZhQ i=u at *
   repeat (first|(apply RL_pu;rfl;exact ZqT)|(refine js ?_;(refine Zab (fun w' _=>ht w') ?_))|refine walk1 ?_)
   refine⟨(i+1,off+m),OA,⟨OA,hi,by dsimp only;omega,by dsimp only;omega⟩,?_,SOA⟩
   dsimp only
   rw[M]
   exact SFA
 ·have C:some off=R:=by
   by_cases r:i<3
   ·obtain⟨us,y,_⟩:=ZpN r
    rw[y,Zdk,if_pos (by omega)]at hi
    exact hi
   ·obtain rfl:i=3:=by omega
    exact hi
  clear hi
  subst C
  have q:(s.size:Int)<=((1+2*i:Nat):Int)\/i=3:=by omega
  obtain⟨F,bl⟩:∃ e,decide (((1+2*i:Nat):Int)<(s.size:Int))=e:=⟨_,rfl⟩
  obtain⟨I,bu⟩:∃ e,decide (0<ZhQ i)=e:=⟨_,rfl⟩
  have T:¬ (F=true/\I=true):=by
   rintro⟨rfl,rfl⟩
   have:=of_decide_eq_true bl
   rcases q with q|rfl
   ·omega
   ·exact absurd (of_decide_eq_true bu) (by decide)
  have f:F=false\/(F=true/\I=false):=by cases F <;> cases I <;> simp_all
  clear T q d
  by_cases S:s.size=0
  ·have bs:decide (0<(s.size:Int))=false:=dF_ (by omega)
   have D:s.data.toList=[]:=List.eq_nil_of_length_eq_zero (by omega)
   have be:decide (s=(⟨#[]⟩:ByteArray))=true:=dT_ ((Zce [] s).2 D.symm).symm
   have j:endR s.data.toList (some off)=none:=by unfold endR;dsimp only;rw[if_pos (.inl (by rw[D];rfl))]
   rw[j]
   rcases f with rfl|⟨rfl,rfl⟩
   all_goals
    repeat (first|(apply RL_pu;rfl;(first|exact ZqT|(apply Zci;rfl;rfl;exact be)))|refine walk1 ?_)
    exact rtB
  have bs:decide (0<(s.size:Int))=true:=dT_ (by omega)
  have t:s.data.toList≠[]:=fun e=>S (by rw[e]at Q;exact Q.symm)
  have be:decide (s=(⟨#[]⟩:ByteArray))=false:=dF_ (fun e=>t ((Zce [] s).1 e.symm).symm)
  obtain⟨c,hgc⟩:∃ c,s.data.toList.getD ((0:Int)).toNat 0=c:=⟨_,rfl⟩
  have H:s.data.toList.head?=some c:=by
   cases q:s.data.toList with
   | nil=>exact absurd q t
   | cons x l=>rw[q]at hgc;rw[<- hgc];rfl
  have B:s.data.toList.isEmpty=false:=by
   cases q:s.data.toList with
   | nil=>exact absurd q t
   | cons x l=>rfl
  by_cases z:c=45
  ·have bc:decide ((c.toNat:Int)=45)=true:=by rw[z];rfl
   have ht:=fun w'=>ZcW (-off) w'
   by_cases hx:ZaM (-off)=s.data.toList
   ·have bt:(!decide ((⟨(ZaM (-off)).toArray⟩:ByteArray)=s))=false:=by rw[dT_ ((Zce _ _).2 hx)];rfl
    have j:endR s.data.toList (some off)=some (-off):=by unfold endR;dsimp only;rw[H,z,if_pos rfl,if_neg (fun e=>e.elim (fun e=>by rw[B]at e;cases e) (fun e=>e hx))]
    rw[j]
    rcases f with rfl|⟨rfl,rfl⟩
    all_goals
     repeat refine ZpM ?_
     exact rtB
   ·have bt:(!decide ((⟨(ZaM (-off)).toArray⟩:ByteArray)=s))=true:=by rw[dF_ (fun e=>hx ((Zce _ _).1 e))];rfl
    have j:endR s.data.toList (some off)=none:=by unfold endR;dsimp only;rw[H,z,if_pos rfl,if_pos (.inr hx)]
    rw[j]
    rcases f with rfl|⟨rfl,rfl⟩
    all_goals
     repeat refine ZpM ?_
     exact rtB
  ·have bc:decide ((c.toNat:Int)=45)=false:=dF_ (fun e=>z (UInt8.toNat_inj.1 (by show c.toNat=45;omega)))
   have ht:=fun w'=>ZcW off w'
   have A:¬ (some c=some (45:UInt8)):=fun e=>z (by injection e)
   by_cases hx:ZaM off=s.data.toList
   ·have bt:(!decide ((⟨(ZaM off).toArray⟩:ByteArray)=s))=false:=by rw[dT_ ((Zce _ _).2 hx)];rfl
    have j:endR s.data.toList (some off)=some off:=by unfold endR;dsimp only;rw[H,if_neg A,if_neg (fun e=>e.elim (fun e=>by rw[B]at e;cases e) (fun e=>e hx))]
    rw[j]
    rcases f with rfl|⟨rfl,rfl⟩
    all_goals
     repeat refine ZpM ?_
     exact rtB
   ·have bt:(!decide ((⟨(ZaM off).toArray⟩:ByteArray)=s))=true:=by rw[dF_ (fun e=>hx ((Zce _ _).1 e))];rfl
    have j:endR s.data.toList (some off)=none:=by unfold endR;dsimp only;rw[H,if_neg A,if_pos (.inr hx)]
    rw[j]
    rcases f with rfl|⟨rfl,rfl⟩
    all_goals
     repeat refine ZpM ?_
     exact rtB
theorem ZDz {G:Prop}(h:G:=by(first|(apply Zav;rfl;rfl;first|exact b1|exact b2)|(apply Zau;rfl;rfl;first|exact b3|exact b4))):G:=h
theorem ZlV {G G':Prop}(k:G')(h:Hold G'->G:=by intro k9;(first|refine und ?_|(apply RL_pu;rfl;exact ZDz)|(refine js ?_;(refine Zab (fun w' _=>ht w') ?_))|refine walk1 ?_);exact k9.out):G:=h ⟨k⟩
theorem Zl9 (a b:Int)(g:I64 a)(i:I64 b)(w:World):Does prog 294 [.int .i64 a,.int .i64 b] w (fun v O=>v = .string ⟨(ZaM (a+b)).toArray⟩/\O=[]):=by
 unfold I64 at g i
 have ht:=fun w'=>ZcW (a+b) w'
 refine Zaa func294 rfl rfl rfl rfl ?_
 by_cases c:0<b
 ·have b1:decide (0<b)=true:=dT_ c
  have b3:decide (b<0)=false:=dF_ (by omega)
  by_cases d:86399 - b<a
  ·have b2:decide (86399 - b<a)=true:=dT_ d
   rw[ZdC (.inr (by omega))]
   repeat refine ZlV ?_
   exact rtA
  ·have b2:decide (86399 - b<a)=false:=dF_ d
   repeat refine ZlV ?_
   exact rtA
 ·have b1:decide (0<b)=false:=dF_ c
  by_cases e:b<0
  ·have b3:decide (b<0)=true:=dT_ e
   by_cases f:a < -86399 - b
   ·have b4:decide (a < -86399 - b)=true:=dT_ f
    rw[ZdC (.inl (by omega))]
    repeat refine ZlV ?_
    exact rtA
   ·have b4:decide (a < -86399 - b)=false:=dF_ f
    repeat refine ZlV ?_
    exact rtA
  ·have b3:decide (b<0)=false:=dF_ e
   repeat refine ZlV ?_
   exact rtA
theorem oneV {t:List UInt8}(h:decide ((⟨t.toArray⟩:ByteArray)=⟨#[]⟩)=true):t=[]:=(Zce t ⟨#[]⟩).1 (of_decide_eq_true h)
theorem oneF {t:List UInt8}(h:decide ((⟨t.toArray⟩:ByteArray)=⟨#[]⟩)=false):t≠[]:=fun e=>of_decide_eq_false h (by rw[e])
theorem ZDy {G:Prop}(h:G:=by(first|(apply Zau;rfl;rfl;exact k1)|(apply Zav;rfl;rfl;exact k2)|(apply Zap;rfl;rfl;first|exact k3|exact k4)|(apply Zci;rfl;rfl;first|exact s1|exact s2)|(apply ZlI;rfl;rfl;(simp only[List.length_append,List.length_cons,List.length_nil];omega)))):G:=h
theorem Zej {G G':Prop}(k:G')(h:Hold G'->G:=by intro k9;(first|refine und ?_|(apply RL_pu;rfl;exact ZDy)|(refine js ?_;(first|(refine Zab (fun w' _=>ht w') ?_)|(refine Zab (fun w' _=>hsm w') ?_)|(refine Zab hot ?_)))|refine walk1 ?_);exact k9.out):G:=h ⟨k⟩
theorem ZvB {G:Prop}(h:G:=by(first|exact PuI|(apply Zal;rfl;rfl;exact hz))):G:=h
set_option maxHeartbeats 0 in
theorem ZsS (e:DEra)(A:Option Addr)(c:Nat)(l:List DRule)(w:World)(M:RdSl w A c DRule.enc 11 l)(H:I64 e.off)(N:I64 e.save)(T:∀ r∈l,I64 r.save)(Z:l.length<=1000000) :
  Does prog 283 [.agg (DEra.enc e).toArray,.slice A l.length c] w (fun v O=>v=xpV (Zd9 e l)/\O=[]):=by
 rw[ZrP]
 have hx:=ZgN l 0 T ⟨by decide,by decide⟩
 rw[show Zcp l 0=Zb1 l from rfl]at hx
 have hot:=fun w' (W:Bel w.heap.size w w')=>Zh3 A c l w' (M.up W)
 obtain⟨B,F⟩:∃ B,(l.any fun r => !decide (r.save=0))=B:=⟨_,rfl⟩
 rw[F]
 generalize Zb1 l=od at *
 obtain⟨x,D⟩:=od
 obtain⟨off,d,save,set,f,⟨y,j,i,⟨I,J,dd⟩,⟨us,R⟩⟩⟩:=e
 dsimp only at H N hx hot ⊢
 have ht:=fun w'=>ZcW off w'
 have U:=Zew off
 show Does _ _ [.agg #[.int .i64 off,.int .i64 d,.int .i64 save,.string set,.string f,.bool y,.int .i64 j,.int .i64 i,.int .i64 I,.int .i64 J,.int .i64 dd,.int .i64 us,.int .i64 R],.slice A l.length c] w _
 refine Zaa func283 rfl rfl rfl rfl ?_
 by_cases K:d<0
 ·have k1:decide (d<0)=true:=dT_ K
  rw[if_neg (by omega),if_neg (by omega),if_neg (by omega)]
  repeat (first|refine Zej ?_|(refine js ?_;(refine bx ?_;intro g)))
  exact rtB
 have k1:decide (d<0)=false:=dF_ K
 by_cases L:2<d
 ·have k2:decide (2<d)=true:=dT_ L
  rw[if_neg (by omega),if_neg (by omega),if_neg (by omega)]
  repeat (first|refine Zej ?_|(refine js ?_;(refine bx ?_;intro g)))
  exact rtB
 have k2:decide (2<d)=false:=dF_ L
 by_cases C:d=1
 ·have k3:decide (d=1)=true:=dT_ C
  have k4:decide (d=2)=false:=dF_ (by omega)
  have hsm:=fun w'=>Zl9 off save H N w'
  rw[if_neg (by omega),if_pos C]
  generalize ZaM (off+save)=t at *
  obtain⟨q,s1⟩:∃ q,decide ((⟨t.toArray⟩:ByteArray)=⟨#[]⟩)=q:=⟨_,rfl⟩
  cases q with
  | true =>
   obtain rfl:=oneV s1
   repeat (first|refine Zej ?_|(refine js ?_;(refine bx ?_;intro g)))
   exact rtB
  | false =>
   unfold oneX
   rw[if_neg (oneF s1)]
   repeat (first|refine Zej ?_|(refine js ?_;(refine bx ?_;intro g)))
   exact rtB
 have k3:decide (d=1)=false:=dF_ C
 by_cases E:d=2
 ·have k4:decide (d=2)=true:=dT_ E
  rw[if_neg (by omega),if_neg C,if_pos E]
  have hsm:=fun w'=>Zl9 off x H hx w'
  have V:=Zew (off+x)
  generalize ZaM (off+x)=u at *
  generalize ZaM off=t at *
  repeat (first|refine Zej ?_|(refine js ?_;(refine bx ?_;intro g)))
  refine Zah [(1,.slice A l.length c),(2,.pointer (some ⟨g,0,none⟩)),(6,.string ⟨t.toArray⟩),(9,.int .i64 x),(10,.bool D)] [.blk g [.int .i64 off,.int .i64 d,.int .i64 save,.string set,.string f,.bool y,.int .i64 j,.int .i64 i,.int .i64 I,.int .i64 J,.int .i64 dd,.int .i64 us,.int .i64 R] 75] (fun k:Nat=>[(11,.int .i64 k)]) (fun _=>[])
   (fun k=>k<=l.length/\(D=true\/((l.drop k).any fun r => !decide (r.save=0))=B)) (fun k=>l.length - k) 0 SFA SOA ⟨Nat.zero_le _,.inr F⟩ ?_
  clear F
  rintro k ⟨Y,m⟩
  repeat (refine walk ?_)
  refine Zaf rfl (fun s=>?_) (fun s=>?_)
  ·simp only[decide_eq_true_eq,Int.ofNat_lt]at s
   obtain⟨hna,hca⟩:=M.rd k _ (List.getElem?_eq_getElem s)
   rw[Zag s,List.any_cons]at m
   generalize l[k]=r at *
   simp only[DRule.enc]at hca
   obtain⟨z,hz⟩:∃ z,(!decide (r.save=0))=z:=⟨_,rfl⟩
   rw[hz]at m
   cases z with
   | false =>
    repeat (first|(apply RL_pu;rfl;exact ZvB)|refine walk1 ?_)
    exact⟨k+1,OA,⟨OA,by simpa using m⟩,SFA,SOA⟩
   | true =>
    cases D with
    | true =>
     repeat (first|(apply RL_pu;rfl;exact ZvB)|refine walk1 ?_)
     exact⟨k+1,OA,⟨OA,.inl rfl⟩,SFA,SOA⟩
    | false =>
     obtain rfl:true=B:=by simpa using m
     repeat (first|(apply RL_pu;rfl;exact ZvB)|refine walk1 ?_)
     exact rtB
  ·simp only[decide_eq_false_iff_not,Int.ofNat_lt]at s
   rw[List.drop_eq_nil_of_le (by omega),List.any_nil]at m
   obtain⟨Q,s1⟩:∃ q,decide ((⟨t.toArray⟩:ByteArray)=⟨#[]⟩)=q:=⟨_,rfl⟩
   obtain⟨X,s2⟩:∃ q,decide ((⟨u.toArray⟩:ByteArray)=⟨#[]⟩)=q:=⟨_,rfl⟩
   cases D with
   | true =>
    rw[if_pos rfl]
    unfold twoX
    cases Q with
    | true =>
     rw[if_pos (.inl (oneV s1))]
     repeat (first|refine Zej ?_|(refine js ?_;(refine bx ?_;intro g)))
     exact rtB
    | false =>
     cases X with
     | true =>
      rw[if_pos (.inr (oneV s2))]
      repeat (first|refine Zej ?_|(refine js ?_;(refine bx ?_;intro g)))
      exact rtB
     | false =>
      rw[if_neg (fun h=>h.elim (oneF s1) (oneF s2))]
      repeat (first|refine Zej ?_|(refine js ?_;(refine bx ?_;intro g)))
      exact ret_2 _ _ [] (.tmp rfl) (.tmp rfl) .nil ⟨by simp[xpV],rfl⟩
   | false =>
    obtain rfl:false=B:=by simpa using m
    rw[if_neg (by decide),if_neg (by decide)]
    unfold oneX
    cases Q with
    | true =>
     rw[if_pos (oneV s1)]
     repeat (first|refine Zej ?_|(refine js ?_;(refine bx ?_;intro g)))
     exact rtB
    | false =>
     rw[if_neg (oneF s1)]
     repeat (first|refine Zej ?_|(refine js ?_;(refine bx ?_;intro g)))
     exact rtB
 ·have S:d=0:=by omega
  have k4:decide (d=2)=false:=dF_ E
  rw[if_pos S]
  generalize ZaM off=t at *
  obtain⟨q,s1⟩:∃ q,decide ((⟨t.toArray⟩:ByteArray)=⟨#[]⟩)=q:=⟨_,rfl⟩
  cases q with
  | true =>
   obtain rfl:=oneV s1
   repeat (first|refine Zej ?_|(refine js ?_;(refine bx ?_;intro g)))
   exact rtB
  | false =>
   unfold oneX
   rw[if_neg (oneF s1)]
   repeat (first|refine Zej ?_|(refine js ?_;(refine bx ?_;intro g)))
   exact rtB
