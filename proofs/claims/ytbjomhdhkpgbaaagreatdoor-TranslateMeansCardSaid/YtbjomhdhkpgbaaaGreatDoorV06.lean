/- Parts of the proof. -/
import Derived.Test.YtbjomhdhkpgbaaaGreatDoorV05
import Derived.Test.YtbjomhdhkpgbaaaGreatDoorV04
import Derived.Test.YtbjomhdhkpgbaaaGreatDoorV01
set_option maxHeartbeats 4000000
set_option linter.unusedVariables false
set_option linter.unusedSimpArgs false
namespace Go.Proofs.YtbjomhdhkpgbaaaGreatDoor
open Go Go.RowKit Go.Wk
attribute [local irreducible] W RL Does Zar Zal retQ Calls Pu Stp RD Qy Ay
def ZbQ {α:Type}(p:α->Bool):List α->Nat->Int
 | [],_ => -1
 | x::l,k=>if p x then k else ZbQ p l (k+1)
theorem Zs0 (A:Option Addr)(c:Nat)(l:List ByteArray)(x:ByteArray)(w:World)(hA:RdSl w A c Zav 1 l) :
  Does Tryz.prog 81 [.slice A l.length c,.string x] w (fun v O=>v = .int .i64 (ZbQ (fun y=>decide (x=y)) l 0)/\O=[]):=by
 have hs1:=hA.le
 have hs2:=hA.cap
 unfold maxLen at hs2
 generalize hres:ZbQ (fun y=>decide (x=y)) l 0=res
 refine Zaa Tryz.func81 rfl rfl rfl rfl ?_
 repeat (first|refine walk ?_)
 refine Zaq [(0,_),(1,_),(4,_),(7,_)] _ (fun k:Nat=>[(8,.int .i64 k)]) (fun _=>[]) (fun k=>k<=l.length/\ZbQ (fun y=>decide (x=y)) (l.drop k) k=res) (fun k=>l.length - k) 0 ⟨rfl,rfl,rfl,rfl,rfl,trivial⟩ (.refl _) ⟨by omega,by simpa using hres⟩ ?_
 rintro k ⟨hk,hi⟩
 repeat (first|refine walk ?_)
 refine Zah rfl (fun hc=>?_) (fun hc=>?_)
 ·simp only[decide_eq_true_eq,Int.ofNat_lt]at hc
  obtain⟨hna,hca⟩:=hA.rd k _ (List.getElem?_eq_getElem hc)
  have hnb:=hna
  have hcb:=hca
  rw[Zao hc,ZbQ]at hi
  generalize l[k]=p at *
  repeat (first|(apply RL_pu;rfl;exact PuI)|refine walk1 ?_)
  refine Zah rfl (fun h3=>?_) (fun h3=>?_)
  ·repeat (first|refine walk ?_)
   rw[if_pos h3]at hi
   exact ret_1 _ [] (.tmp rfl) .nil ⟨by rw[<- hi],rfl⟩
  repeat (first|refine walk ?_)
  rw[h3]at hi
  exact⟨k+1,by omega,⟨by omega,hi⟩,SFA,SOA⟩
 simp only[decide_eq_false_iff_not,Int.ofNat_lt]at hc
 repeat (first|refine walk ?_)
 exact ret_1 _ [] (.tmp rfl) .nil ⟨by rw[<- hi,List.drop_eq_nil_of_le (by omega)];rfl,rfl⟩
theorem ZnT (x:ByteArray):∀ (l:List ByteArray) (k:Nat),decide (0<=ZbQ (fun y=>decide (x=y)) l k)=memB x l
 | [],k=>by simp[ZbQ,memB]
 | y::l,k=>by
  have ih:=ZnT x l (k+1)
  simp only[ZbQ,memB]
  by_cases h:x=y
  ·subst h;simp
  ·rw[<- ih]
   have:¬ y=x:=fun e=>h e.symm
   simp[h,this]
theorem ZeH (A:Option Addr)(c:Nat)(l:List ByteArray)(x:ByteArray)(w:World)(hA:RdSl w A c Zav 1 l) :
  Does Tryz.prog 43 [.slice A l.length c,.string x] w (fun v O=>v = .bool (memB x l)/\O=[]):=by
 refine Zaa Tryz.func43 rfl rfl rfl rfl ?_
 repeat (first|(refine js ?_;(refine Zae (fun w' hw=>Zs0 A c l x w' (hA.up hw)) ?_))|refine walk ?_)
 exact ret_1 _ [] (.tmp rfl) .nil ⟨by rw[ZnT],rfl⟩
theorem Zem {G G':Prop}(k:G')(h:Hold G'->G:=by intro k9;(first|refine walk ?_|(refine jn ?_;(try intro F);(apply Zag;exact PuA);refine fin ?_));exact k9.out):G:=h ⟨k⟩
theorem ZjF (A B:Option Addr)(ca cb:Nat)(x y:List Zab)(w:World)(hA:RdSl w A ca Zab.enc 11 x)(hB:RdSl w B cb Zab.enc 11 y) :
  Does Tryz.prog 67 [.slice A x.length ca,.slice B y.length cb] w (fun v O=>v = .bool (decide (x=y))/\O=[]):=by
 have hs1:=hA.le
 have hs2:=hA.cap
 unfold maxLen at hs2
 generalize hres:decide (x=y)=res
 refine Zaa Tryz.func67 rfl rfl rfl rfl ?_
 repeat refine Zem ?_
 refine Zah rfl (fun h1=>?_) (fun h1=>?_)
 ·repeat refine Zem ?_
  exact ret_1 _ [] (.tmp rfl) .nil ⟨by rw[<- hres,ZhH];simp at h1;omega,rfl⟩
 have hlen:x.length=y.length:=by simp at h1;omega
 clear h1
 repeat refine Zem ?_
 refine Zaq [(0,_),(1,_),(4,_),(12,_)] _ (fun k:Nat=>[(13,.int .i64 k)]) (fun _=>[]) (fun k=>k<=x.length/\decide (x.drop k=y.drop k)=res) (fun k=>x.length - k) 0 ⟨rfl,rfl,rfl,rfl,rfl,trivial⟩ (.refl _) ⟨by omega,hres⟩ ?_
 rintro k ⟨hk,hi⟩
 repeat refine Zem ?_
 refine Zah rfl (fun hc=>?_) (fun hc=>?_)
 ·simp only[decide_eq_true_eq,Int.ofNat_lt]at hc
  have hcy:k<y.length:=by omega
  obtain⟨hna,hca⟩:=hA.rd k _ (List.getElem?_eq_getElem hc)
  obtain⟨hnb,hcb⟩:=hB.rd k _ (List.getElem?_eq_getElem hcy)
  rw[Zao hc,Zao hcy,ZfO]at hi
  generalize x[k]=p at *
  generalize y[k]=q at *
  repeat (first|(apply RL_pu;rfl;exact PuI)|(apply RD_Q;rfl;rfl;decide +kernel;rfl;rfl;exact QyI)|refine walk1 ?_|(refine jn ?_;(try intro F);(apply Zag;first|exact PuI|exact PuA);first|refine⟨_,EndsA,QFI,?_⟩|refine fin ?_))
  refine Zah rfl (fun h3=>?_) (fun h3=>?_)
  ·repeat refine Zem ?_
   exact ret_1 _ [] (.tmp rfl) .nil ⟨by simp at h3;simp[<- hi,h3],rfl⟩
  repeat refine Zem ?_
  simp at h3
  exact⟨k+1,by omega,⟨by omega,by rw[<- hi];simp[h3]⟩,SFA,SOA⟩
 simp only[decide_eq_false_iff_not,Int.ofNat_lt]at hc
 repeat refine Zem ?_
 exact ret_1 _ [] (.tmp rfl) .nil ⟨by rw[<- hi,ZhG (by omega) (by omega)],rfl⟩
theorem ZdZ (A:Option Addr)(c:Nat)(l:List Zab)(f:FuncId)[Body Tryz.prog f](us cs:List Value)(p:Zab->Bool)(w:World)(hA:RdSl w A c Zab.enc 11 l)
  (hf:∀ r w',Bel w.heap.size w w'->Does Tryz.prog f (us++[.agg (Zab.enc r).toArray]++cs) w' (fun v O=>v = .bool (p r)/\O=[])) :
  Does Tryz.prog 56 [.slice A l.length c,.func (.func f) us.toArray cs.toArray] w (fun v O=>v = .int .i64 (ZbQ p l 0)/\O=[]):=by
 have hs1:=hA.le
 have hs2:=hA.cap
 unfold maxLen at hs2
 generalize hres:ZbQ p l 0=res
 refine Zaa Tryz.func56 rfl rfl rfl rfl ?_
 repeat (first|refine walk ?_)
 refine Zaq [(0,_),(1,_),(4,_),(7,_)] _ (fun k:Nat=>[(8,.int .i64 k)]) (fun _=>[]) (fun k=>k<=l.length/\ZbQ p (l.drop k) k=res) (fun k=>l.length - k) 0 ⟨rfl,rfl,rfl,rfl,rfl,trivial⟩ (.refl _) ⟨by omega,by simpa using hres⟩ ?_
 rintro k ⟨hk,hi⟩
 repeat (first|refine walk ?_)
 refine Zah rfl (fun hc=>?_) (fun hc=>?_)
 ·simp only[decide_eq_true_eq,Int.ofNat_lt]at hc
  obtain⟨hna,hca⟩:=hA.rd k _ (List.getElem?_eq_getElem hc)
  have hnb:=hna
  have hcb:=hca
  rw[Zao hc,ZbQ]at hi
  generalize l[k]=r at *
  repeat (first|(apply RL_pu;rfl;exact PuI)|(refine js ?_;(refine Zeh (fun w' hw _=>hf r w' hw) ?_))|refine walk1 ?_)
  refine Zah rfl (fun h3=>?_) (fun h3=>?_)
  ·repeat (first|refine walk ?_)
   rw[if_pos h3]at hi
   exact ret_1 _ [] (.tmp rfl) .nil ⟨by rw[<- hi],rfl⟩
  repeat (first|refine walk ?_)
  rw[h3]at hi
  exact⟨k+1,by omega,⟨by omega,hi⟩,SFA,SOA⟩
 simp only[decide_eq_false_iff_not,Int.ofNat_lt]at hc
 repeat (first|refine walk ?_)
 exact ret_1 _ [] (.tmp rfl) .nil ⟨by rw[<- hi,List.drop_eq_nil_of_le (by omega)];rfl,rfl⟩
def ofB (l:List Zab)(x:ByteArray):List Zab:=l.filter fun r=>decide (r.name=x)
def Zik {α:Type}(e sz:Nat)(enc:α->List Value)(l:List α)(v:Value)(O:List It):Prop:=∃ A c,v = .slice A l.length c/\O=[.row (.slice A l.length c) e sz l.length (l.flatMap enc)]
def ZaS:List Zab->List ByteArray->List ByteArray
 | [],acc=>acc
 | r::l,acc=>if memB r.name acc then ZaS l acc else ZaS l (acc++[r.name])
theorem Zi4 (x y:ByteArray):∀ l:List ByteArray,memB x (l++[y])=(memB x l||decide (y=x))
 | []=>by simp[memB]
 | z::l=>by simp[memB,Zi4 x y l,Bool.or_assoc]
theorem ZcF (A:Option Addr)(c:Nat)(x:List Zab)(w:World)(hA:RdSl w A c Zab.enc 11 x)(hn:x.length<=1000000) :
  Does Tryz.prog 63 [.slice A x.length c] w (Zik 56 11 Zab.enc x):=by
 refine Zaa Tryz.func63 rfl rfl rfl rfl ?_
 repeat (first|(refine js ?_;(refine bx ?_;intro bk))|refine walk ?_)
 refine Zah rfl (fun h1=>?_) (fun h1=>?_)
 ·obtain rfl:=hA.none h1
  refine Zdj 56 11 ?_
  repeat (first|(refine js ?_;(refine bx ?_;intro bk))|refine walk ?_)
  exact ret_1 _ [.row (.slice none 0 0) 56 11 0 []] (.tmp rfl) SOA ⟨none,0,rfl,rfl⟩
 repeat (first|(refine js ?_;(first|(apply ZdK;rfl;rfl;(intro A' c';(focus repeat' constructor));(intro w' hw _;exact(hA.up hw).rd.raw Zab.len (by decide));exact ZaJ Zab.len x;exact ZcR oneR x;(simp only[maxLen];omega);omega;intro A' c' hc1 hc2 hc3)|(refine bx ?_;intro bk)))|refine walk ?_)
 exact ret_1 _ _ (.tmp rfl) (.refl _) ⟨A',c',rfl,rfl⟩
theorem ZcE (A:Option Addr)(c:Nat)(x:List ByteArray)(w:World)(hA:RdSl w A c Zav 1 x)(hn:x.length<=1000000) :
  Does Tryz.prog 65 [.slice A x.length c] w (Zik 9 1 Zav x):=by
 refine Zaa Tryz.func65 rfl rfl rfl rfl ?_
 repeat (first|(refine js ?_;(refine bx ?_;intro bk))|refine walk ?_)
 refine Zah rfl (fun h1=>?_) (fun h1=>?_)
 ·obtain rfl:=hA.none h1
  refine Zdj 9 1 ?_
  repeat (first|(refine js ?_;(refine bx ?_;intro bk))|refine walk ?_)
  exact ret_1 _ [.row (.slice none 0 0) 9 1 0 []] (.tmp rfl) SOA ⟨none,0,rfl,rfl⟩
 repeat (first|(refine js ?_;(first|(apply ZdK;rfl;rfl;(intro A' c';(focus repeat' constructor));(intro w' hw _;exact(hA.up hw).rd.raw Zav.len (by decide));exact ZaJ Zav.len x;exact ZcR oneS x;(simp only[maxLen];omega);omega;intro A' c' hc1 hc2 hc3)|(refine bx ?_;intro bk)))|refine walk ?_)
 exact ret_1 _ _ (.tmp rfl) (.refl _) ⟨A',c',rfl,rfl⟩
theorem ZcG (A:Option Addr)(c:Nat)(x:List DEra)(w:World)(hA:RdSl w A c DEra.enc 13 x)(hn:x.length<=1000000) :
  Does Tryz.prog 66 [.slice A x.length c] w (Zik 54 13 DEra.enc x):=by
 refine Zaa Tryz.func66 rfl rfl rfl rfl ?_
 repeat (first|(refine js ?_;(refine bx ?_;intro bk))|refine walk ?_)
 refine Zah rfl (fun h1=>?_) (fun h1=>?_)
 ·obtain rfl:=hA.none h1
  refine Zdj 54 13 ?_
  repeat (first|(refine js ?_;(refine bx ?_;intro bk))|refine walk ?_)
  exact ret_1 _ [.row (.slice none 0 0) 54 13 0 []] (.tmp rfl) SOA ⟨none,0,rfl,rfl⟩
 repeat (first|(refine js ?_;(first|(apply ZdK;rfl;rfl;(intro A' c';(focus repeat' constructor));(intro w' hw _;exact(hA.up hw).rd.raw DEra.len (by decide));exact ZaJ DEra.len x;exact ZcR oneE x;(simp only[maxLen];omega);omega;intro A' c' hc1 hc2 hc3)|(refine bx ?_;intro bk)))|refine walk ?_)
 exact ret_1 _ _ (.tmp rfl) (.refl _) ⟨A',c',rfl,rfl⟩
theorem ZeI (A:Option Addr)(c:Nat)(x:List Zbl)(w:World)(hA:RdSl w A c Zbl.enc 2 x)(hn:x.length<=1000000) :
  Does Tryz.prog 64 [.slice A x.length c] w (Zik 69 2 Zbl.enc x):=by
 refine Zaa Tryz.func64 rfl rfl rfl rfl ?_
 repeat (first|(refine js ?_;(refine bx ?_;intro bk))|refine walk ?_)
 refine Zah rfl (fun h1=>?_) (fun h1=>?_)
 ·obtain rfl:=hA.none h1
  refine Zdj 69 2 ?_
  repeat (first|(refine js ?_;(refine bx ?_;intro bk))|refine walk ?_)
  exact ret_1 _ [.row (.slice none 0 0) 69 2 0 []] (.tmp rfl) SOA ⟨none,0,rfl,rfl⟩
 repeat (first|(refine js ?_;(first|(apply ZdK;rfl;rfl;(intro A' c';(focus repeat' constructor));(intro w' hw _;exact(hA.up hw).rd.raw Zbl.len (by decide));exact ZaJ Zbl.len x;exact ZcR oneL x;(simp only[maxLen];omega);omega;intro A' c' hc1 hc2 hc3)|(refine bx ?_;intro bk)))|refine walk ?_)
 exact ret_1 _ _ (.tmp rfl) (.refl _) ⟨A',c',rfl,rfl⟩
end Go.Proofs.YtbjomhdhkpgbaaaGreatDoor
namespace Go.Wk
open Go Go.RowKit
def Zyq (y:Int):Bool:=decide (y % 4=0)&&(!decide (y % 100=0)||decide (y % 400=0))
def lenM (y m:Int):Int:=if m<1\/12<m then 0 else if m=2 then (if Zyq y then 29 else 28) else if m=4\/m=6\/m=9\/m=11 then 30 else 31
def inY (y:Int):Bool:=decide (-2000000000<=y)&&decide (y<=2000000000)
def Zbr:List Int:=[0,31,61,92,122,153,184,214,245,275,306,337]
def Zh8 (y m d:Int):Int:=y / 400*146097+y % 400*365+y % 400 / 4 - y % 400 / 100+Zbr.getD (m - 3).toNat 0+d - 1 - 719468
def Zb7 (y m d:Int):Int:=if m<3 then Zh8 (y - 1) (m+12) d else Zh8 y m d
def Zci (y m d:Int):Bool:=inY y&&decide (1<=d)&&decide (d<=lenM y m)
def ZmK (n:Int):Int:=(n+4) % 7
theorem ZlS (y m:Int):0<=lenM y m/\lenM y m<=31:=by
 unfold lenM
 split
 ·omega
 ·split
  ·split <;> omega
  ·split <;> omega
theorem ZqO (n:Int):0<=ZmK n/\ZmK n<=6:=by unfold ZmK;omega
theorem ZfP (k:Nat):0<=Zbr.getD k 0/\Zbr.getD k 0<=337:=by
 by_cases h:k<12
 ·have:k=0\/k=1\/k=2\/k=3\/k=4\/k=5\/k=6\/k=7\/k=8\/k=9\/k=10\/k=11:=by omega
  rcases this with rfl|rfl|rfl|rfl|rfl|rfl|rfl|rfl|rfl|rfl|rfl|rfl <;> decide
 ·rw[List.getD_eq_getElem?_getD,List.getElem?_eq_none (by simp[Zbr];omega)]
  decide
def ZeY (r:Int):Int:=(r - r / 1460+r / 36524 - r / 146096) / 365
def monN (r:Int):Nat->Nat
 | 0=>0
 | m+1=>if Zbr.getD (m+1) 0<=r then m+1 else monN r m
def ZyQ (n:Int):Int :=
 let c:=(n+719468) / 146097
 let r:=(n+719468) % 146097
 let y:=ZeY r
 let q:=r - (y*365+y / 4 - y / 100)
 if 10<=monN q 11 then c*400+y+1 else c*400+y
def Zd6 (t:Int):Int:=min (max (ZyQ (t / 86400)) (-2000000000)) 2000000000
def ZoS (k:Int):Bool := !decide (k=1)
def dayK (k:Int):Bool := !decide (k=2)
def ZdH (d:DDay):Bool:=decide (1<=d.kind)&&decide (d.kind<=4)&&!((!decide (d.week=0)&&!ZoS d.kind)||decide (d.week<0)||decide (6<d.week)||(dayK d.kind==decide (d.day=0))||decide (d.day<0)||decide (31<d.day))
def Zgv (x w:Int):Int:=x+(w - ZmK x+7) % 7
def Zfu (x w:Int):Int:=x - (ZmK x - w+7) % 7
def ZfY (first last:Int)(d:DDay):Int:=if d.kind=1 then first+d.day - 1 else if d.kind=2 then Zfu last d.week else if d.kind=3 then Zgv (first+d.day - 1) d.week else Zfu (first+d.day - 1) d.week
def onD (y m:Int)(d:DDay):Int × Int :=
 if Zci y m 1=false then (0,3) else if ZdH d=false then (0,2) else if lenM y m<d.day then (0,4) else (ZfY (Zb7 y m 1) (Zb7 y m 1+lenM y m - 1) d,0)
def Zgw (from_ to m:Int)(d:DDay):Bool :=
 if m<1\/12<m\/ZdH d=false then false
 else if (to<1048576/\to<from_)\/d.day<=lenM 1 m then true
 else if 1048576<=to\/from_≠to\/m≠2 then false
 else decide (d.day<=lenM (from_.tmod 400) m)
def ZaQ (c:Zb9):Bool:=decide (-604799<=c.sec)&&decide (c.sec<=604799)&&decide (0<=c.base)&&decide (c.base<=2)
def ZdM (c:Nat):Nat:=if (65<=c/\c<=90)\/(97<=c/\c<=122) then 1 else if 48<=c/\c<=57 then 2 else if c=95 then 4 else if c=45 then 8 else if c=46\/c=43 then 16 else 0
def Zc6 (some_:Nat)(l:List UInt8):Bool:=l.all fun c => !decide (ZdM c.toNat &&& some_=0)
def Zdx (least most some_:Nat)(l:List UInt8):Bool:=decide (least<=l.length)&&decide (l.length<=most)&&Zc6 some_ l
def Zg1:List UInt8->List UInt8->List (List UInt8)
 | [],acc=>[acc]
 | c::l,acc=>if c=47 then acc::Zg1 l [] else Zg1 l (acc++[c])
def Zx6 (l:List UInt8):Bool:=Zdx 1 14 31 l&&!(match l with|c::_=>decide (c=46)||decide (c=45)|[]=>false)
def Zig (s:ByteArray):Bool:=decide (s.size<=60)&&(Zg1 s.data.toList []).all Zx6
def setB (s:ByteArray):Bool:=Zdx 1 30 15 s.data.toList&&Zdx 1 1 1 (s.data.toList.take 1)
def Zjb (s:ByteArray):Bool:=Zdx 1 4 1 s.data.toList
def Ztw (s:ByteArray):Bool:=Zdx 3 6 1 s.data.toList
def Zaj (l:List Zab):Int:=l.foldl (fun m r=>min m r.save) 0
def Zc5:List Zab->Int->Int × Bool
 | [],x=>(x,!decide (x=0))
 | r::l,x=>if r.save=0 then Zc5 l x else if x≠0/\r.save≠x then (0,false) else Zc5 l r.save
def Zbo (l:List Zab):Int × Bool:=Zc5 l 0
def ZcA (y:Int):Bool:=decide (1850<=y)&&decide (y<=2149)
def ZeS (c:Zb9)(least:Int):Bool:=ZaQ c&&(let n:=if c.base=1 then c.sec+least else c.sec;decide (-86400<=n)&&decide (n<=172800))
def Zcp (r:Zab)(least:Int):Int :=
 if (ZcA r.from_&&(ZcA r.to||decide (r.to=1048576)))=false then 3
 else if r.to<r.from_ then 12
 else if Zgw r.from_ r.to r.month r.day=false then 3
 else if ZeS r.at_ least=false then 3
 else if (decide (-10800<=r.save)&&decide (r.save<=10800))=false then 14
 else if (decide (r.letter=ByteArray.empty)||Zjb r.letter)=false then 15
 else 0
def Zcz (r:Zab):Bool:=if r.day.kind=2 then true else if r.day.kind=3 then decide (r.day.day.tmod 7=1)&&decide (r.day.day<29) else if r.day.kind=1 then !decide (r.month=2)||!decide (r.day.day=29) else false
def Zii (l:List Zab):Bool :=
 match l.filter fun r=>decide (r.to=1048576) with
 | []=>true
 | [a,b]=>(decide (a.save=0)!=decide (b.save=0))&&!decide (a.month=b.month)&&Zcz a&&Zcz b
 | _=>false
def Zbp (least:Int):List Zab->Nat->Option (Nat × Int)
 | [],_=>none
 | r::l,k=>if Zcp r least=0 then Zbp least l (k+1) else some (k,Zcp r least)
def Zes (l:List Zab):Nat × Int :=
 match Zbp (Zaj l) l 0 with
 | some x=>x
 | none =>
  if (l.any fun r=>decide (r.save=0))=false\/(Zaj l<0/\(l.any fun r => !decide (r.save=0)&&!decide (r.save=Zaj l))=true) then (0,14)
  else if Zii l=false then (0,16)
  else (0,0)
def dig2 (n:Int):List UInt8:=[UInt8.ofNat (48+(n / 10).toNat),UInt8.ofNat (48+(n % 10).toNat)]
def ZaT (off:Int):List UInt8 :=
 if off <= -86400\/86400<=off then []
 else
  let x:=if off<0 then -off else off
  (if off<0 then (45:UInt8) else 43)::(dig2 (x / 3600)++(if x % 3600=0 then [] else dig2 (x / 60 % 60))++(if x % 60=0 then [] else dig2 (x % 60)))
def numU (l:List UInt8):Option Int:=if l.isEmpty then none else if l.all (fun c=>decide (48<=c)&&decide (c<=57)) then some (l.foldl (fun n c=>n*10+((c.toNat:Int) - 48)) 0) else none
def Zgp (l:List UInt8):List Int->Nat->Int->Option Int
 | [],_,off=>some off
 | u::us,i,off=>if l.length<=1+2*i then some off else match numU ((l.drop (1+2*i)).take 2) with|none=>none|some n=>Zgp l us (i+1) (off+n*u)
def Zb2 (l:List UInt8):Option Int :=
 match Zgp l [3600,60,1] 0 0 with
 | none=>none
 | some o=>let off:=if l.head?=some 45 then -o else o
  if l.isEmpty\/ZaT off≠l then none else some off
def ZdD (n:Int):Bool:=decide (-9223372036854775808<=n)&&decide (n<=9223372036854775807)
def ZeB (off:Int):List Int->Option (List (List UInt8))
 | []=>some []
 | x::l=>if ZdD (off+x)=false\/ZaT (off+x)=[] then none else match ZeB off l with|none=>none|some r=>some (ZaT (off+x)::r)
def Zcn:List (List UInt8)->List UInt8
 | []=>[]
 | [x]=>x
 | x::l=>x++47::Zcn l
def Zbi (e:DEra)(l:List Zab):List UInt8 × Int :=
 let j:=fun s=>match ZeB e.off s with|none=>([],(3:Int))|some r=>(Zcn r,0)
 if e.kind=0 then j [0]
 else if e.kind=1 then j [e.save]
 else if e.kind=2 then (if (Zbo l).2 then j [0,(Zbo l).1] else if (l.any fun r => !decide (r.save=0)) then ([],14) else j [0])
 else ([],2)
def Zc8 (p:List UInt8):List UInt8->List UInt8->Option (List UInt8 × List UInt8)
 | [],acc=>if p=[] then some (acc,[]) else none
 | c::l,acc=>if p.isPrefixOf (c::l) then some (acc,(c::l).drop p.length) else Zc8 p l (acc++[c])
def ZdB (l:List UInt8):Bool:=l.all fun c=>decide (ZdM c.toNat=1)
def Zcu (f:List UInt8):Option (List UInt8 × List UInt8) :=
 match Zc8 [37,115] f [] with
 | none=>none
 | some (a,b)=>if ZdB (a++b)/\(a++b).length<=5 then some (a,b) else none
def Zdi (l:List UInt8):Bool:=Zdx 3 6 1 l
def ZaP (f:List UInt8):Int :=
 let two:=Zc8 [47] f []
 if Zdi f then 1
 else if (match two with|some (a,b)=>Zdi a&&Zdi b|none=>false) then 2
 else if (Zcu f).isSome then 3
 else if f=[37,122] then 4
 else if (Zb2 f).isSome||(match two with|some (a,b)=>(Zb2 a).isSome&&(Zb2 b).isSome|none=>false) then 5
 else 0
def Zbk (f:List UInt8):Option (List UInt8 × List UInt8) :=
 match Zc8 [47] f [] with
 | none=>none
 | some (a,b)=>if ZaP f=2\/ZaP f=5 then some (a,b) else none
def ZbO (f:List UInt8)(off save:Int)(letter:List UInt8):List UInt8 × Int :=
 match Zbk f with
 | some (a,b)=>(if save=0 then a else b,0)
 | none =>
  if ZaP f=3 then (match Zcu f with|some (a,b)=>if Zdi (a++letter++b) then (a++letter++b,0) else ([],15)|none=>([],15))
  else if ZaP f=4 then (if ZdD (off+save)=true/\ZaT (off+save)≠[] then (ZaT (off+save),0) else ([],15))
  else if ZaP f=1\/ZaP f=5 then (f,0)
  else ([],15)
def ZeC (f:List UInt8):List (List UInt8)->Int
 | []=>0
 | x::l=>if (ZbO f 0 0 x).2=0 then ZeC f l else (ZbO f 0 0 x).2
def ZdF (e:DEra)(l:List Zab):Int :=
 let f:=e.format.data.toList
 if ZaP f=0 then 15
 else if ZaP f=3 then ZeC f (if e.kind=2 then l.map (fun r=>r.letter.data.toList) else [[]])
 else if ZaP f=4\/ZaP f=5 then (if (Zbi e l).2≠0\/(ZaP f=5/\(Zbi e l).1≠f) then 15 else 0)
 else 0
def ZaI (u:ZaZ)(least:Int):Int :=
 if least < -10800\/0<least then 2
 else if u.is=false then 4
 else if u.year<1850\/2149<u.year\/ZaQ u.at_=false then 3
 else
  let sec:=if u.at_.base=1 then u.at_.sec+least else u.at_.sec
  if (onD u.year u.month u.day).2≠0\/sec < -86400\/172800<sec then 3 else 0
def ZaF (u:ZaZ)(least:Int):Int × Int :=
 if ZaI u least≠0 then (0,ZaI u least) else (86400*(onD u.year u.month u.day).1+u.at_.sec+(if u.at_.base=1 then least else 0),0)
structure Zaf where
 year:Int
 rule:Int
 nominal:Int
 deriving DecidableEq
def Zaf.enc (e:Zaf):List Value:=[.int .i64 e.year,.int .i64 e.rule,.int .i64 e.nominal]
def dEv0:Zaf:=⟨0,0,0⟩
def lastY (r:Zab):Int:=if r.to=1048576 then 2000000000 else min r.to 2000000000
def onR (least:Int)(r:Zab)(i y:Int):Option Zaf :=
 if y<max r.from_ (-2000000000)\/lastY r<y\/ZaQ r.at_=false then none
 else if (onD y r.month r.day).2≠0 then none
 else some ⟨y,i,86400*(onD y r.month r.day).1+r.at_.sec+(if r.at_.base=1 then max least (-10800) else 0)⟩
def ordE (a b:Zaf):Int:=if a.nominal<b.nominal then -1 else if b.nominal<a.nominal then 1 else if a.rule<b.rule then -1 else if b.rule<a.rule then 1 else if a.year<b.year then -1 else if b.year<a.year then 1 else 0
end Go.Wk
namespace Go.Proofs.YtbjomhdhkpgbaaaGreatDoor
open Go Go.RowKit Go.Wk
def Zbd (x:ByteArray):List ZaO->Nat->Option Nat
 | [],_=>none
 | z::l,k=>if z.name=x then some k else Zbd x l (k+1)
def ZbV (x:ByteArray):List Zbl->Nat->Option Nat
 | [],_=>none
 | z::l,k=>if z.name=x then some k else ZbV x l (k+1)
def ZaW (s:Zac):Nat->List ByteArray->ByteArray->Nat × Int
 | 0,_,_=>(0,11)
 | fuel+1,seen,x =>
  match Zbd x s.zones 0 with
  | some i=>(i,0)
  | none=>match ZbV x s.links 0 with
   | none=>(0,9)
   | some i=>if memB x seen then (0,11) else ZaW s fuel (x::seen) ((s.links[i]?).map (·.target) |>.getD ByteArray.empty)
def Zbg (s:Zac):List ZaO->Nat->Option (Zas × Int)
 | [],_=>none
 | z::l,i=>if Zig z.name=false then some (⟨2,i,0⟩,9) else if Zbd z.name s.zones 0≠some i then some (⟨2,i,0⟩,10) else Zbg s l (i+1)
def ZbA (s:Zac):List Zbl->Nat->Option (Zas × Int)
 | [],_=>none
 | l::ls,i =>
  if Zig l.name=false then some (⟨3,i,0⟩,9)
  else if (Zbd l.name s.zones 0).isSome\/ZbV l.name s.links 0≠some i then some (⟨3,i,0⟩,10)
  else if (Zbd l.target s.zones 0).isNone/\(ZbV l.target s.links 0).isNone then some (⟨3,i,0⟩,9)
  else ZbA s ls (i+1)
def Zbz (s:Zac):List Zbl->Nat->Option (Zas × Int)
 | [],_=>none
 | l::ls,i=>if (ZaW s (s.links.length+1) [] l.name).2=11 then some (⟨3,i,0⟩,11) else Zbz s ls (i+1)
def Zda (s:Zac):Option (Zas × Int):=(Zbg s s.zones 0).or ((ZbA s s.links 0).or (Zbz s s.links 0))
def insE (e:Zaf):List Zaf->List Zaf
 | []=>[e]
 | x::l=>if ordE x e<0 then e::x::l else x::insE e l
def Ze4 (least y:Int):List Zab->Nat->List Zaf->List Zaf
 | [],_,acc=>acc
 | r::l,i,acc=>Ze4 least y l (i+1) (match onR least r i y with|some e=>insE e acc|none=>acc)
def ZdR (l:List Zab)(least from_:Int):Nat->List Zaf
 | 0=>[]
 | k+1=>Ze4 least (from_+k) l 0 (ZdR l least from_ k)
def Zh9:List Zaf->Option Zaf
 | []=>none
 | [_]=>none
 | a::b::l=>(Zh9 (b::l)).or (if a.nominal - b.nominal<259200 then some a else none)
def Zgb (l:List Zab):Option Zaf:=Zh9 (ZdR l (Zaj l) 1850 701)
def evIn (least nominal:Int)(r:Zab)(i y:Int):Nat->Option Zaf
 | 0=>none
 | k+1=>match onR least r i y with
  | some e=>if nominal<e.nominal then some e else evIn least nominal r i (y+1) k
  | none=>evIn least nominal r i (y+1) k
def Zb5 (least nominal yr:Int):List Zab->Nat->Option Zaf->Option Zaf
 | [],_,best=>best
 | r::l,i,best =>
  Zb5 least nominal yr l (i+1) (match evIn least nominal r i (max (max r.from_ (-2000000000)) (yr - 2)) 20 with
   | none=>best
   | some e=>match best with|none=>some e|some b=>if ordE e b<0 then some e else some b)
def Zfv (l:List Zab)(nominal:Int):Option Zaf:=Zb5 (Zaj l) nominal (Zd6 nominal) l 0 none
def farD (l:List Zab)(nominal:Int):Bool :=
 match Zfv l (nominal - 259200) with
 | none=>true
 | some e=>decide (259200<=e.nominal - nominal)
def ZeT (s:Zac):Option (Zas × Int) :=
 if 2000<s.rules.length then some (⟨1,2000,0⟩,7)
 else if 500<s.zones.length then some (⟨2,500,0⟩,7)
 else match s.zones.findIdx? fun z=>decide (60<z.eras.length) with
  | some i=>some (⟨2,i,60⟩,7)
  | none=>if 1000<s.links.length then some (⟨3,1000,0⟩,7) else if 2000<s.shifts.length then some (⟨4,2000,0⟩,7) else none
def Zeb (set:ByteArray):List Zab->Nat->Nat->Zas
 | [],_,_=>⟨0,0,0⟩
 | r::l,i,k=>if r.name=set then (match i with|0=>⟨1,k,0⟩|i+1=>Zeb set l i (k+1)) else Zeb set l i (k+1)
def Zco (rs:List Zab)(x:ByteArray):Option (Nat × Int) :=
 if setB x=false then some (0,9)
 else if (Zes (ofB rs x)).2≠0 then some (Zes (ofB rs x))
 else match Zgb (ofB rs x) with|some e=>some (e.rule.toNat,13)|none=>none
def Zd8 (rs:List Zab):List ByteArray->Option (Zas × Int)
 | []=>none
 | x::l=>match Zco rs x with|some (i,e)=>some (Zeb x rs i 0,e)|none=>Zd8 rs l
def Zih (s:Zac):Option (Zas × Int):=Zd8 s.rules (ZaS s.rules [])
def Zbw (s:Zac):List ByteArray->List ByteArray->Nat->Option (Zas × Int)
 | [],_,_=>none
 | x::l,seen,i =>
  let r:=ofB s.rules x
  if r=[] then some (⟨4,i,0⟩,9)
  else if memB x seen then some (⟨4,i,0⟩,10)
  else if Zaj r≠0\/(Zbo r).2=false then some (⟨4,i,0⟩,14)
  else Zbw s l (seen++[x]) (i+1)
def Zaz (rs:List Zab)(e:DEra):List Zab:=if e.kind=2 then ofB rs e.set else []
def ZaE (rs:List Zab)(e:DEra):List (Int × ByteArray):=if e.kind=1 then [(e.save,ByteArray.empty)] else if e.kind=2 then (Zaz rs e).map fun r=>(r.save,r.letter) else [(0,ByteArray.empty)]
def ZbG (off save:Int):Bool:=decide (-54000<=off+save)&&decide (off+save<=54000)
def dU0:ZaZ:=⟨false,0,0,⟨0,0,0⟩,⟨0,0⟩⟩
def Ze7 (e:DEra):Bool:=(!decide (e.kind=1)&&!decide (e.save=0))||(!decide (e.kind=2)&&!decide (e.set=ByteArray.empty))||(!e.til.is&&!decide ({ e.til with is:=false }=dU0))
def Zc2 (rs:List Zab)(e:DEra)(first:Bool):Int :=
 if e.kind<0\/2<e.kind then 2
 else if first=true/\e.kind=2 then 12
 else if e.kind=2/\Zaz rs e=[] then 9
 else if e.kind=1/\(e.save<1\/10800<e.save) then 14
 else if ZbG e.off 0=false\/((ZaE rs e).any fun x => !ZbG e.off x.1)=true then 3
 else if Ze7 e then 2
 else ZdF e (Zaz rs e)
def dE0:DEra:=⟨0,0,0,ByteArray.empty,ByteArray.empty,dU0⟩
def Zga (rs:List Zab)(l:List DEra)(k:Nat):Int :=
 let e:=l.getD k dE0
 if e.til.is≠decide (k+1<l.length) then 12
 else if e.til.is=false then 0
 else
  let least:=Zaj (Zaz rs e)
  if ZaI e.til least≠0 then ZaI e.til least
  else
   let n:=(ZaF e.til least).1
   let b:=l.getD (k - 1) dE0
   if 0<k/\((ZaF b.til (Zaj (Zaz rs b))).2≠0\/n - (ZaF b.til (Zaj (Zaz rs b))).1<259200) then 12
   else if e.kind=2/\farD (Zaz rs e) n=false then 13
   else 0
def addP (x:Int × List UInt8)(l:List (Int × List UInt8)):List (Int × List UInt8):=if x∈l then l else l++[x]
def addA (x:List UInt8)(l:List (List UInt8)):List (List UInt8):=if x∈l then l else l++[x]
def stGo (e:DEra):List (Int × ByteArray)->List (Int × List UInt8) × List (List UInt8)->List (Int × List UInt8) × List (List UInt8)
 | [],acc=>acc
 | x::l,acc =>
  let a:=(ZbO e.format.data.toList e.off x.1 x.2.data.toList).1
  stGo e l (addP (e.off+x.1,a) acc.1,addA a acc.2)
def erGo (rs:List Zab):List DEra->List (Int × List UInt8) × List (List UInt8)->List (Int × List UInt8) × List (List UInt8)
 | [],acc=>acc
 | e::l,acc=>erGo rs l (stGo e (ZaE rs e) acc)
def Zds:List (List UInt8)->Nat
 | []=>0
 | x::l=>x.length+1+Zds l
def Zf9 (rs:List Zab)(z:ZaO):Bool:=decide ((erGo rs z.eras ([],[])).1.length<=120)&&decide (Zds (erGo rs z.eras ([],[])).2<=250)
def Zcr (rs:List Zab)(l:List DEra)(i:Nat):Nat->Nat->Option (Zas × Int)
 | 0,_=>none
 | f+1,k =>
  if Zc2 rs (l.getD k dE0) (decide (k=0))≠0 then some (⟨2,i,k⟩,Zc2 rs (l.getD k dE0) (decide (k=0)))
  else if Zga rs l k≠0 then some (⟨2,i,k⟩,Zga rs l k)
  else Zcr rs l i f (k+1)
def ZbI (rs:List Zab):List ZaO->Nat->Option (Zas × Int)
 | [],_=>none
 | z::l,i =>
  if z.eras=[] then some (⟨2,i,0⟩,4)
  else match Zcr rs z.eras i z.eras.length 0 with
   | some x=>some x
   | none=>if Zf9 rs z=false then some (⟨2,i,0⟩,7) else ZbI rs l (i+1)
def accD (s:Zac):Option (Zas × Int):=(ZeT s).or ((Zih s).or ((Zbw s s.shifts [] 0).or ((Zda s).or (ZbI s.rules s.zones 0))))
def Za7 (form:Int)(s:Zac):Option (Zas × Int) :=
 if form<1\/3<form then some (⟨0,0,0⟩,2)
 else match s.rules.findIdx? fun r=>decide (r.save<0)&&decide (form=3) with
  | some i=>some (⟨1,i,0⟩,17)
  | none =>
   let wrong:=fun e:DEra=>(decide (ZaP e.format.data.toList=4)&&!decide (form=1))||(decide (ZaP e.format.data.toList=5)&&decide (form=1))
   match s.zones.findIdx? fun z=>z.eras.any wrong with
   | some i=>some (⟨2,i,(((s.zones[i]?).map fun z=>((z.eras.findIdx? wrong).getD 0)).getD 0)⟩,17)
   | none=>if 0<s.shifts.length/\form≠3 then some (⟨4,0,0⟩,17) else none
def Zc0 (s:Zac):List Int:=if (accD s).isSome then [] else [1,2,3].filter fun f=>(Za7 f s).isNone
def mvC (c:Zb9)(x:Int):Zb9:=if c.base=1 then ⟨c.sec - x,c.base⟩ else c
def shR (x:Int)(r:Zab):Zab:={ r with at_:=mvC r.at_ x,save:=r.save+x }
def shN (set:ByteArray)(x:Int)(r:Zab):Zab:=if r.name=set then shR x r else r
def shU (u:ZaZ)(x:Int):ZaZ:=if u.is=true then { u with at_:=mvC u.at_ x } else u
def Zfp (set:ByteArray)(e:DEra):Prop:=e.kind=2/\e.set=set
instance (set:ByteArray) (e:DEra):Decidable (Zfp set e):=inferInstanceAs (Decidable (e.kind=2/\e.set=set))
def shE (set:ByteArray)(x:Int)(e:DEra):DEra:=if Zfp set e then { e with off:=e.off - x,til:=shU e.til x } else e
def Zcm (f:ByteArray):ByteArray:=match Zbk f.data.toList with
 | some (a,b)=>⟨(b++47::a).toArray⟩
 | none=>f
def Zce (set:ByteArray)(e:DEra):DEra:=if Zfp set e then { e with format:=Zcm e.format } else e
def Za4 (f:DEra->DEra)(z:ZaO):ZaO:=⟨z.name,z.eras.map f⟩
def erasS (f:DEra->DEra)(s:Zac):Zac:=⟨s.rules,s.zones.map (Za4 f),s.links,s.shifts⟩
def shiftS (set:ByteArray)(x:Int)(s:Zac):Zac:=⟨s.rules.map (shN set x),s.zones.map (Za4 (shE set x)),s.links,s.shifts⟩
def byS (s:Zac)(set:ByteArray)(x:Int):Zac:=erasS (Zce set) (shiftS set x s)
def pctB:ByteArray:=⟨#[37,122]⟩
def unGo:List ByteArray->Zac->Zac
 | [],s=>s
 | x::l,s=>unGo l (byS s x (-(Zbo (ofB s.rules x)).1))
def ZaC (s:Zac):Zac:={ unGo s.shifts s with shifts:=[] }
def numB (rs:List Zab)(e:DEra):ByteArray:=⟨(Zbi e (Zaz rs e)).1.toArray⟩
def Zct (e:DEra):DEra:=if ZaP e.format.data.toList=5 then { e with format:=pctB } else e
def ZaL (s:Zac):Zac:=erasS Zct s
def expE (rs:List Zab)(e:DEra):DEra:=if e.format=pctB then { e with format:=numB rs e } else e
def Zb4 (s:Zac):Zac:=erasS (expE s.rules) s
def ZeU:List ByteArray->Zac->Zac
 | [],s=>s
 | x::l,s=>if Zaj (ofB s.rules x)<0 then ZeU l { byS s x (-Zaj (ofB s.rules x)) with shifts:=s.shifts++[x] } else ZeU l s
def ZsE (s:Zac):Zac:=ZeU (ZaS s.rules []) s
def toD (form:Int)(s:Zac):Zac :=
 let v:=ZaL (ZaC s)
 if form=1 then v else if form=2 then Zb4 v else ZsE (Zb4 v)
theorem ZyN {f:DEra->DEra}{s:Zac}(h:∀ z∈s.zones,∀ e∈z.eras,f e=e):erasS f s=s:=by
 have hz:s.zones.map (Za4 f)=s.zones:=by
  refine(List.map_congr_left fun z hz=>?_).trans (List.map_id _)
  unfold Za4
  rw[(List.map_congr_left fun e he=>h z hz e he:z.eras.map f=z.eras.map id),List.map_id]
  rfl
 unfold erasS
 rw[hz]
theorem ZA2 (c:Zb9):mvC c 0=c:=by
 unfold mvC
 split
 ·rw[Int.sub_zero]
 ·rfl
theorem ZuU (c:Zb9)(x y:Int):mvC (mvC c x) y=mvC c (x+y):=by
 unfold mvC
 by_cases h:c.base=1
 ·rw[if_pos h,if_pos h,if_pos h]
  dsimp only
  rw[Int.sub_sub]
 ·rw[if_neg h,if_neg h,if_neg h]
theorem ZiR (r:Zab):shR 0 r=r:=by
 unfold shR
 rw[ZA2,Int.add_zero]
theorem ZAL (r:Zab)(x y:Int):shR y (shR x r)=shR (x+y) r:=by
 unfold shR
 dsimp only
 rw[ZuU,Int.add_assoc]
theorem ZB8 (u:ZaZ):shU u 0=u:=by
 unfold shU
 rw[ZA2]
 split <;> rfl
theorem ZAK (u:ZaZ)(x y:Int):shU (shU u x) y=shU u (x+y):=by
 unfold shU
 by_cases h:u.is=true
 ·rw[if_pos h,if_pos h,if_pos h]
  dsimp only
  rw[ZuU]
 ·rw[if_neg h,if_neg h,if_neg h]
def inM (n:Int):Bool:=decide (-1000000000<=n)&&decide (n<=1000000000)
theorem ZbU {n:Int}:inM n=true↔-1000000000<=n/\n<=1000000000:=by unfold inM;simp
def rulM (r:Zab):Bool:=inM r.save&&inM r.at_.sec
def eraM (e:DEra):Bool:=inM e.off&&(inM e.save&&(inM e.til.at_.sec&&decide (e.format.size<=1000)))
def srcM (s:Zac):Bool:=s.rules.all rulM&&s.zones.all fun z=>z.eras.all eraM
def hasN (s:Zac)(x:ByteArray):Bool:=s.rules.any fun r=>decide (r.name=x)
def rngB (s:Zac)(x:ByteArray)(y:Int):Bool:=hasN s x&&(srcM s&&inM y)
def unB:List ByteArray->Zac->Bool
 | [],_=>true
 | x::l,s=>rngB s x (-(Zbo (ofB s.rules x)).1)&&unB l (byS s x (-(Zbo (ofB s.rules x)).1))
def reB:List ByteArray->Zac->Bool
 | [],_=>true
 | x::l,s=>if Zaj (ofB s.rules x)<0 then rngB s x (-Zaj (ofB s.rules x))&&reB l { byS s x (-Zaj (ofB s.rules x)) with shifts:=s.shifts++[x] } else reB l s
def conE (rs:List Zab)(e:DEra):Bool := !decide (ZaP e.format.data.toList=5)||(decide ((Zbi e (Zaz rs e)).2=0)&&decide ((Zbi e (Zaz rs e)).1=e.format.data.toList))
def conB (s:Zac):Bool:=s.zones.all fun z=>z.eras.all (conE s.rules)
def expZ (rs:List Zab)(e:DEra):Bool := !decide (e.format=pctB)||decide ((Zbi e (Zaz rs e)).2=0)
def expB (s:Zac):Bool:=s.zones.all fun z=>z.eras.all (expZ s.rules)
def toB (form:Int)(s:Zac):Bool :=
 unB s.shifts s&&(srcM (ZaC s)&&(conB (ZaC s)&&(decide (form=1)||(srcM (ZaL (ZaC s))&&(expB (ZaL (ZaC s))&&(decide (form=2)||(srcM (Zb4 (ZaL (ZaC s)))&&reB (ZaS (Zb4 (ZaL (ZaC s))).rules []) (Zb4 (ZaL (ZaC s))))))))))
theorem ZkW (a:List Value):∀ (vs cs:List Value) (j:Nat),lay (a++cs) (a.length+j) vs=a++lay cs j vs
 | [],_,_=>rfl
 | v::r,cs,j=>by
  rw[lay,lay,List.set_append_right _ _ (by omega),Nat.add_sub_cancel_left,Nat.add_assoc,ZkW a r _ (j+1)]
theorem ZnE (c:List Value):∀ (vs a:List Value) (j:Nat),j+vs.length<=a.length->lay (a++c) j vs=lay a j vs++c
 | [],_,_,_=>rfl
 | v::r,a,j,h=>by
  simp only[List.length_cons]at h
  rw[lay,lay,List.set_append_left _ _ (by omega),ZnE c r _ (j+1) (by rw[List.length_set];omega)]
theorem Zeg {α:Type}{enc:α->List Value}{sz:Nat}(hsz:∀ x,(enc x).length=sz)(off:Nat)(vs:List Value)(hb:off+vs.length<=sz)(x y:α)(he:lay (enc x) off vs=enc y):∀ (l:List α) (k:Nat),l[k]?=some x->lay (l.flatMap enc) (k*sz+off) vs=(l.set k y).flatMap enc
 | [],k,h=>by simp at h
 | z::l,0,h=>by
  simp only[List.getElem?_cons_zero,Option.some.injEq]at h
  subst h
  rw[List.flatMap_cons,List.set_cons_zero,List.flatMap_cons,<- he,Nat.zero_mul,Nat.zero_add,ZnE _ _ _ _ (by rw[hsz];exact hb)]
 | z::l,k+1,h=>by
  have ih:=Zeg hsz off vs hb x y he l k (by simpa using h)
  rw[List.flatMap_cons,List.set_cons_succ,List.flatMap_cons,<- ih,show(k+1)*sz+off=(enc z).length+(k*sz+off) by rw[hsz,Nat.add_mul];omega,ZkW]
end Go.Proofs.YtbjomhdhkpgbaaaGreatDoor
namespace Go.Wk
open Go Go.RowKit
theorem walkB1 {G G':Prop}(k:G')(h:Hold G'->G:=by intro k;(first|(apply Go.Wk.RL_pu;rfl;exact Go.Wk.PuA)|(apply Go.Wk.RL_st0;refine Go.Wk.stA ?_)|apply Go.Wk.W_seq|apply Go.Wk.W_region|apply Go.Wk.RL_nil|apply Go.Wk.thenQ_n|apply Go.Wk.W_skip|apply Go.Wk.W_ret|apply Go.Wk.W_exit|apply Go.Wk.thenQ_r|apply Go.Wk.thenQ_e|apply Go.Wk.blockQ_n|apply Go.Wk.blockQ_r|apply Go.Wk.blockQ_hit|(apply Go.Wk.blockQ_miss;rfl)|(apply Go.Wk.W_true;rfl)|(apply Go.Wk.W_false;rfl)|(apply Go.Wk.RL_yes;rfl;rfl;rfl)|(apply Go.Wk.RL_no;rfl;rfl;rfl;rfl;rfl)|(apply Go.Wk.W_draw;rfl;decide +kernel)|apply Go.Wk.RD_done|(apply Go.Wk.RD_Q;rfl;rfl;decide +kernel;rfl;rfl;exact Go.Wk.QyA)|(apply Go.Wk.RD_N;rfl;rfl;decide +kernel;rfl;rfl;rfl)|(apply Go.Wk.RD_A;rfl;rfl;decide +kernel;rfl;rfl;first|exact Go.Wk.Ay_alloc|exact Go.Wk.Ay_buildSlice0|(apply Go.Wk.Ay_buildSliceC;rfl;rfl;rfl;rfl;exact Go.Wk.NfA)|(apply Go.Wk.Ay_buildSliceNf;rfl;rfl;rfl;exact Go.Wk.NfA)));exact k.out):G:=h ⟨k⟩
theorem Zkj {G G':Prop}(k:G')(h:Hold G'->G:=by intro k;refine Go.Wk.walkB1 ?_;(repeat refine Go.Wk.walkB1 ?_);exact k.out):G:=h ⟨k⟩
end Go.Wk
