/- Parts of the proof. -/
import Derived.Test.YtpipekfmecikmaaGreatDoorV05
import Derived.Test.YtpipekfmecikmaaGreatDoorV04
import Derived.Test.YtpipekfmecikmaaGreatDoorV01
import Derived.Sort.LotA
import Derived.Orders
set_option maxHeartbeats 4000000
set_option linter.unusedVariables false
set_option linter.unusedSimpArgs false
namespace Go.Proofs.YtpipekfmecikmaaGreatDoor
open Go Go.RowKit Go.Wk
attribute [local irreducible] W RL Does Zat Zaj retQ Calls Pu Stp RD Qy Ay
def ofB (l:List DRule)(x:ByteArray):List DRule:=l.filter fun r=>decide (r.name=x)
def ZiP {α:Type}(e sz:Nat)(enc:α->List Value)(l:List α)(v:Value)(O:List It):Prop:=∃ A c,v = .slice A l.length c/\O=[.row (.slice A l.length c) e sz l.length (l.flatMap enc)]
theorem Zkf (Ar Az Al As:Option Addr)(cr cz cl cs:Nat)(a:DSource)(set:ByteArray)(w:World)(hA:Zar w Ar Az Al As cr cz cl cs a)(hn:a.rules.length<=1000000) :
  Does Tryz.prog 86 [srcV Ar Az Al As cr cz cl cs a,.string set] w (ZiP 68 11 DRule.enc (ofB a.rules set)):=by
 generalize hres:ofB a.rules set=res
 refine Zaa Tryz.func86 rfl rfl rfl rfl ?_
 repeat (first|(refine js ?_;(refine bx ?_;intro bk))|refine walk ?_)
 refine ZdN 68 11 ?_
 refine Zai [(1,_),(2,_),(4,_)] [_] (fun g:AG DRule=>[(5,.slice g.A g.m g.c),(6,.int .i64 g.k)]) (fun g=>[.row (.slice g.A g.m g.c) 68 11 g.m g.xs]) (fun g=>g.k<=a.rules.length/\g.m=g.acc.length/\g.xs=g.acc.flatMap DRule.enc/\g.m<=g.k/\g.acc++ofB (a.rules.drop g.k) set=res) (fun g=>a.rules.length - g.k) ⟨0,none,0,0,[],[]⟩ ⟨rfl,rfl,rfl,rfl,rfl,trivial⟩ (.refl _) ⟨by simp,rfl,rfl,Nat.le_refl _,by simpa using hres⟩ ?_
 rintro⟨k,A,c,m,xs,acc⟩ ⟨hk,hm,hx,hmk,hi⟩
 dsimp only at hk hm hx hmk hi ⊢
 repeat (first|(refine js ?_;(refine bx ?_;intro bk))|refine walk ?_)
 refine Zaf rfl (fun hc=>?_) (fun hc=>?_)
 ·simp only[decide_eq_true_eq,Int.ofNat_lt]at hc
  obtain⟨hna,hca⟩:=hA.r.rd k _ (List.getElem?_eq_getElem hc)
  have hnb:=hna
  have hcb:=hca
  rw[Zag hc,ofB,List.filter_cons]at hi
  generalize a.rules[k]=r at *
  repeat (first|(apply RL_pu;rfl;exact PuI)|(refine js ?_;(refine bx ?_;intro bk))|refine walk1 ?_)
  refine Zaf rfl (fun h3=>?_) (fun h3=>?_)
  ·rw[if_pos h3]at hi
   repeat (first|(apply RL_pu;rfl;exact PuI)|(refine js ?_;(first|(apply ZaT;rfl;rfl;(intro A' c';(focus repeat' constructor));(intro w' _ hO;exact Zcu (hO.of (by repeat' constructor)));rfl;rfl;(simp only[maxLen];omega);omega;intro A' c' hc1 hc2 hc3)|(refine bx ?_;intro bk)))|refine walk1 ?_)
   exact⟨⟨k+1,A',c',m+1,xs++r.enc,acc++[r]⟩,OA,⟨OA,by simp[hm],by rw[hx];exact Zel acc r,OA,by rw[<- hi];simp[ofB]⟩,SFA,SOA⟩
  rw[h3]at hi
  repeat (first|(refine js ?_;(refine bx ?_;intro bk))|refine walk ?_)
  exact⟨⟨k+1,A,c,m,xs,acc⟩,OA,⟨OA,hm,hx,OA,hi⟩,SFA,SOA⟩
 simp only[decide_eq_false_iff_not,Int.ofNat_lt]at hc
 rw[List.drop_eq_nil_of_le (by omega)]at hi
 simp only[ofB,List.filter_nil,List.append_nil]at hi
 subst hi
 repeat (first|(refine js ?_;(refine bx ?_;intro bk))|refine walk ?_)
 exact ret_1 _ [.row (.slice A acc.length c) 68 11 acc.length (acc.flatMap DRule.enc)] (.tmp rfl) (by subst hm hx;exact SOA) ⟨A,c,by rw[hm],rfl⟩
def Zbv:List DRule->List ByteArray->List ByteArray
 | [],acc=>acc
 | r::l,acc=>if memB r.name acc then Zbv l acc else Zbv l (acc++[r.name])
theorem ZlC (x y:ByteArray):∀ l:List ByteArray,memB x (l++[y])=(memB x l||decide (y=x))
 | []=>by simp[memB]
 | z::l=>by simp[memB,ZlC x y l,Bool.or_assoc]
theorem Zdr {G G':Prop}(k:G')(h:Hold G'->G:=by intro k9;(first|refine walk ?_|(refine jn ?_;(try intro F);(apply Zac;exact PuA);refine fin ?_));exact k9.out):G:=h ⟨k⟩
theorem Zon {G:Prop}(h:G:=by(first|exact PuI|(apply ZbW;rfl;(focus repeat' constructor);exact hg))):G:=h
theorem Ztj {G:Prop}(h:G:=by first|(apply Qy_y;rfl;exact Zon)|exact QyA):G:=h
theorem ZyU {G:Prop}(h:G:=by repeat (first|exact QF.nil|(apply QF.mk;rfl;rfl;decide +kernel;exact Ztj))):G:=h
theorem Zm8 (Ar Az Al As:Option Addr)(cr cz cl cs:Nat)(a:DSource)(w:World)(hA:Zar w Ar Az Al As cr cz cl cs a)(hn:a.rules.length<=1000000) :
  Does Tryz.prog 187 [srcV Ar Az Al As cr cz cl cs a] w (ZiP 9 1 ZaU (Zbv a.rules [])):=by
 generalize hres:Zbv a.rules []=res
 refine Zaa Tryz.func187 rfl rfl rfl rfl ?_
 repeat (first|refine Zdr ?_|(refine jn ?_;(try intro F);(refine bx ?_;intro bk);refine fin ?_)|(apply RD_W;rfl;intro bk))
 refine ZdN 9 1 ?_
 refine Zai [(1,_),(2,_)] [_] (fun g:AG ByteArray=>[(3,.slice g.A g.m g.c),(4,.int .i64 g.k)]) (fun g=>[.row (.slice g.A g.m g.c) 9 1 g.m g.xs]) (fun g=>g.k<=a.rules.length/\g.m=g.acc.length/\g.xs=g.acc.flatMap ZaU/\g.m<=g.k/\Zbv (a.rules.drop g.k) g.acc=res) (fun g=>a.rules.length - g.k) ⟨0,none,0,0,[],[]⟩ ⟨rfl,rfl,rfl,rfl,trivial⟩ (.refl _) ⟨by simp,rfl,rfl,Nat.le_refl _,by simpa using hres⟩ ?_
 rintro⟨k,A,c,m,xs,acc⟩ ⟨hk,hm,hx,hmk,hi⟩
 dsimp only at hk hm hx hmk hi ⊢
 repeat (first|refine Zdr ?_|(refine jn ?_;(try intro F);(refine bx ?_;intro bk);refine fin ?_)|(apply RD_W;rfl;intro bk))
 refine Zaf rfl (fun hc=>?_) (fun hc=>?_)
 ·simp only[decide_eq_true_eq,Int.ofNat_lt]at hc
  obtain⟨hna,hca⟩:=hA.r.rd k _ (List.getElem?_eq_getElem hc)
  rw[Zag hc,Zbv]at hi
  generalize a.rules[k]=r at *
  repeat (first|refine Zdr ?_|(refine jn ?_;(try intro F);(refine bx ?_;intro bk);refine fin ?_)|(apply RD_W;rfl;intro bk))
  refine Zai [(1,_),(2,_),(3,_),(4,_)] [_,_] (fun g:Nat × Bool=>[(5,.bool g.2),(6,.int .i64 g.1)]) (fun _=>[]) (fun g=>g.1<=m/\(g.2||memB r.name (acc.drop g.1))=memB r.name acc) (fun g=>m - g.1) (0,false) ⟨rfl,rfl,rfl,rfl,rfl,rfl,trivial⟩ (.refl _) ⟨by omega,by simp⟩ ?_
  rintro⟨j,seen⟩ ⟨hj,hij⟩
  dsimp only at hj hij ⊢
  repeat (first|refine Zdr ?_|(refine jn ?_;(try intro F);(refine bx ?_;intro bk);refine fin ?_)|(apply RD_W;rfl;intro bk))
  refine Zaf rfl (fun hc2=>?_) (fun hc2=>?_)
  ·simp only[decide_eq_true_eq,Int.ofNat_lt]at hc2
   have hj2:j<acc.length:=by omega
   refine ZzO (fun w' _ hO=>ZoO (hO.of (by repeat' constructor)) (by omega)) (fun hnb=>?_)
   rw[Zag hj2,memB]at hij
   have hg:xs[(j:Int).toNat*1]?=some (.string acc[j]):=by
    rw[hx]
    exact Zao ZaU.len acc j _ 0 _ (List.getElem?_eq_getElem hj2) rfl
   generalize acc[j]=y at *
   repeat (first|refine Zdr ?_|(refine jn ?_;(try intro F);(refine bx ?_;intro bk);refine fin ?_)|(apply RD_W;rfl;intro bk))
   refine Zpo 21 rfl (fun h2=>?_) (fun h2=>?_)
   ·repeat (first|refine Zdr ?_|(refine jn ?_;(try intro F);(refine bx ?_;intro bk);refine fin ?_)|(apply RD_W;rfl;intro bk))
    exact⟨(j+1,true),OA,⟨OA,by rw[<- hij,h2];simp⟩,SFA,SOA⟩
   have hcb:=hca
   repeat (first|(apply RL_pu;rfl;exact Zon)|(apply RD_Q;rfl;rfl;decide +kernel;rfl;rfl;exact Ztj)|refine walk1 ?_|(refine jn ?_;(try intro F);(first|(refine bx ?_;intro bk)|(apply Zac;first|exact Zon|exact PuA));first|refine⟨_,EndsA,ZyU,?_⟩|refine fin ?_)|(apply RD_W;rfl;intro bk))
   exact⟨(j+1,decide (y=r.name)),OA,⟨OA,by rw[<- hij,h2];simp⟩,SFA,SOA⟩
  simp only[decide_eq_false_iff_not,Int.ofNat_lt]at hc2
  rw[List.drop_eq_nil_of_le (by omega)]at hij
  simp only[memB,Bool.or_false]at hij
  repeat (first|refine Zdr ?_|(refine jn ?_;(try intro F);(refine bx ?_;intro bk);refine fin ?_)|(apply RD_W;rfl;intro bk))
  refine Zaf rfl (fun h3=>?_) (fun h3=>?_)
  ·have hnb:=hna
   have hcb:=hca
   simp only[Bool.not_eq_true']at h3
   rw[<- hij,h3]at hi
   repeat (first|(apply RL_pu;rfl;exact PuI)|(apply RD_Q;rfl;rfl;decide +kernel;rfl;rfl;exact QyI)|refine walk1 ?_|(refine jn ?_;(try intro F);(first|(apply ZaT;rfl;rfl;(intro A' c';(focus repeat' constructor));(intro w' _ hO;exact Zcu (hO.of (by repeat' constructor)));rfl;rfl;(simp only[maxLen];omega);omega;intro A' c' hc1 hc2 hc3)|(refine bx ?_;intro bk)|(apply Zac;first|exact PuI|exact PuA));first|refine⟨_,EndsA,QFI,?_⟩|refine fin ?_)|(apply RD_W;rfl;intro bk))
   exact⟨⟨k+1,A',c',m+1,xs++ZaU r.name,acc++[r.name]⟩,OA,⟨OA,by simp[hm],by rw[hx];exact Zel acc r.name,OA,by rw[<- hi];simp⟩,SFA,SOA⟩
  simp only[Bool.not_eq_false']at h3
  rw[<- hij,h3]at hi
  repeat (first|refine Zdr ?_|(refine jn ?_;(try intro F);(refine bx ?_;intro bk);refine fin ?_)|(apply RD_W;rfl;intro bk))
  exact⟨⟨k+1,A,c,m,xs,acc⟩,OA,⟨OA,hm,hx,OA,by rw[<- hi];simp⟩,SFA,SOA⟩
 simp only[decide_eq_false_iff_not,Int.ofNat_lt]at hc
 rw[List.drop_eq_nil_of_le (by omega),Zbv]at hi
 subst hi
 repeat (first|refine Zdr ?_|(refine jn ?_;(try intro F);(refine bx ?_;intro bk);refine fin ?_)|(apply RD_W;rfl;intro bk))
 exact ret_1 _ [.row (.slice A acc.length c) 9 1 acc.length (acc.flatMap ZaU)] (.tmp rfl) (by subst hm hx;exact SOA) ⟨A,c,by rw[hm],rfl⟩
end Go.Proofs.YtpipekfmecikmaaGreatDoor
namespace Go.Proofs.YtpipekfmecikmaaGreatDoor
open Go Go.RowKit Go.Wk
def ZaO (x:ByteArray):List DZone->Nat->Option Nat
 | [],_=>none
 | z::l,k=>if z.name=x then some k else ZaO x l (k+1)
def ZaR (x:ByteArray):List DLink->Nat->Option Nat
 | [],_=>none
 | z::l,k=>if z.name=x then some k else ZaR x l (k+1)
def ZbR (s:DSource):Nat->List ByteArray->ByteArray->Nat × Int
 | 0,_,_=>(0,11)
 | fuel+1,seen,x =>
  match ZaO x s.zones 0 with
  | some i=>(i,0)
  | none=>match ZaR x s.links 0 with
   | none=>(0,9)
   | some i=>if memB x seen then (0,11) else ZbR s fuel (x::seen) ((s.links[i]?).map (·.target) |>.getD ByteArray.empty)
def Za5 (s:DSource):List DZone->Nat->Option (Zaq × Int)
 | [],_=>none
 | z::l,i=>if ZeS z.name=false then some (⟨2,i,0⟩,9) else if ZaO z.name s.zones 0≠some i then some (⟨2,i,0⟩,10) else Za5 s l (i+1)
def Zbf (s:DSource):List DLink->Nat->Option (Zaq × Int)
 | [],_=>none
 | l::ls,i =>
  if ZeS l.name=false then some (⟨3,i,0⟩,9)
  else if (ZaO l.name s.zones 0).isSome\/ZaR l.name s.links 0≠some i then some (⟨3,i,0⟩,10)
  else if (ZaO l.target s.zones 0).isNone/\(ZaR l.target s.links 0).isNone then some (⟨3,i,0⟩,9)
  else Zbf s ls (i+1)
def Zbe (s:DSource):List DLink->Nat->Option (Zaq × Int)
 | [],_=>none
 | l::ls,i=>if (ZbR s (s.links.length+1) [] l.name).2=11 then some (⟨3,i,0⟩,11) else Zbe s ls (i+1)
def ZcV (s:DSource):Option (Zaq × Int):=(Za5 s s.zones 0).or ((Zbf s s.links 0).or (Zbe s s.links 0))
def insE (e:Zad):List Zad->List Zad
 | []=>[e]
 | x::l=>if ordE x e<0 then e::x::l else x::insE e l
def Zj3 (least y:Int):List DRule->Nat->List Zad->List Zad
 | [],_,acc=>acc
 | r::l,i,acc=>Zj3 least y l (i+1) (match onR least r i y with|some e=>insE e acc|none=>acc)
def Zet (l:List DRule)(least from_:Int):Nat->List Zad
 | 0=>[]
 | k+1=>Zj3 least (from_+k) l 0 (Zet l least from_ k)
def ZgH:List Zad->Option Zad
 | []=>none
 | [_]=>none
 | a::b::l=>(ZgH (b::l)).or (if a.nominal - b.nominal<259200 then some a else none)
def Zes (l:List DRule):Option Zad:=ZgH (Zet l (Zah l) 1850 701)
def evIn (least nominal:Int)(r:DRule)(i y:Int):Nat->Option Zad
 | 0=>none
 | k+1=>match onR least r i y with
  | some e=>if nominal<e.nominal then some e else evIn least nominal r i (y+1) k
  | none=>evIn least nominal r i (y+1) k
def Zbs (least nominal yr:Int):List DRule->Nat->Option Zad->Option Zad
 | [],_,best=>best
 | r::l,i,best =>
  Zbs least nominal yr l (i+1) (match evIn least nominal r i (max (max r.from_ (-2000000000)) (yr - 2)) 20 with
   | none=>best
   | some e=>match best with|none=>some e|some b=>if ordE e b<0 then some e else some b)
def Zeu (l:List DRule)(nominal:Int):Option Zad:=Zbs (Zah l) nominal (ZaC nominal) l 0 none
def farD (l:List DRule)(nominal:Int):Bool :=
 match Zeu l (nominal - 259200) with
 | none=>true
 | some e=>decide (259200<=e.nominal - nominal)
def ZdS (s:DSource):Option (Zaq × Int) :=
 if 2000<s.rules.length then some (⟨1,2000,0⟩,7)
 else if 500<s.zones.length then some (⟨2,500,0⟩,7)
 else match s.zones.findIdx? fun z=>decide (60<z.eras.length) with
  | some i=>some (⟨2,i,60⟩,7)
  | none=>if 1000<s.links.length then some (⟨3,1000,0⟩,7) else if 2000<s.shifts.length then some (⟨4,2000,0⟩,7) else none
def ZbN (set:ByteArray):List DRule->Nat->Nat->Zaq
 | [],_,_=>⟨0,0,0⟩
 | r::l,i,k=>if r.name=set then (match i with|0=>⟨1,k,0⟩|i+1=>ZbN set l i (k+1)) else ZbN set l i (k+1)
def ZbM (rs:List DRule)(x:ByteArray):Option (Nat × Int) :=
 if setB x=false then some (0,9)
 else if (Zcq (ofB rs x)).2≠0 then some (Zcq (ofB rs x))
 else match Zes (ofB rs x) with|some e=>some (e.rule.toNat,13)|none=>none
def Zcr (rs:List DRule):List ByteArray->Option (Zaq × Int)
 | []=>none
 | x::l=>match ZbM rs x with|some (i,e)=>some (ZbN x rs i 0,e)|none=>Zcr rs l
def ZeT (s:DSource):Option (Zaq × Int):=Zcr s.rules (Zbv s.rules [])
def ZaZ (s:DSource):List ByteArray->List ByteArray->Nat->Option (Zaq × Int)
 | [],_,_=>none
 | x::l,seen,i =>
  let r:=ofB s.rules x
  if r=[] then some (⟨4,i,0⟩,9)
  else if memB x seen then some (⟨4,i,0⟩,10)
  else if Zah r≠0\/(ZbH r).2=false then some (⟨4,i,0⟩,14)
  else ZaZ s l (seen++[x]) (i+1)
def ZaE (rs:List DRule)(e:DEra):List DRule:=if e.kind=2 then ofB rs e.set else []
def ZaG (rs:List DRule)(e:DEra):List (Int × ByteArray):=if e.kind=1 then [(e.save,ByteArray.empty)] else if e.kind=2 then (ZaE rs e).map fun r=>(r.save,r.letter) else [(0,ByteArray.empty)]
def Za0 (off save:Int):Bool:=decide (-54000<=off+save)&&decide (off+save<=54000)
def dU0:DUntil:=⟨false,0,0,⟨0,0,0⟩,⟨0,0⟩⟩
def Zc2 (e:DEra):Bool:=(!decide (e.kind=1)&&!decide (e.save=0))||(!decide (e.kind=2)&&!decide (e.set=ByteArray.empty))||(!e.til.is&&!decide ({ e.til with is:=false }=dU0))
def ZcZ (rs:List DRule)(e:DEra)(first:Bool):Int :=
 if e.kind<0\/2<e.kind then 2
 else if first=true/\e.kind=2 then 12
 else if e.kind=2/\ZaE rs e=[] then 9
 else if e.kind=1/\(e.save<1\/10800<e.save) then 14
 else if Za0 e.off 0=false\/((ZaG rs e).any fun x => !Za0 e.off x.1)=true then 3
 else if Zc2 e then 2
 else Zek e (ZaE rs e)
def dE0:DEra:=⟨0,0,0,ByteArray.empty,ByteArray.empty,dU0⟩
def ZcI (rs:List DRule)(l:List DEra)(k:Nat):Int :=
 let e:=l.getD k dE0
 if e.til.is≠decide (k+1<l.length) then 12
 else if e.til.is=false then 0
 else
  let least:=Zah (ZaE rs e)
  if ZaI e.til least≠0 then ZaI e.til least
  else
   let n:=(ZaB e.til least).1
   let b:=l.getD (k - 1) dE0
   if 0<k/\((ZaB b.til (Zah (ZaE rs b))).2≠0\/n - (ZaB b.til (Zah (ZaE rs b))).1<259200) then 12
   else if e.kind=2/\farD (ZaE rs e) n=false then 13
   else 0
def addP (x:Int × List UInt8)(l:List (Int × List UInt8)):List (Int × List UInt8):=if x∈l then l else l++[x]
def addA (x:List UInt8)(l:List (List UInt8)):List (List UInt8):=if x∈l then l else l++[x]
def stGo (e:DEra):List (Int × ByteArray)->List (Int × List UInt8) × List (List UInt8)->List (Int × List UInt8) × List (List UInt8)
 | [],acc=>acc
 | x::l,acc =>
  let a:=(ZeW e.format.data.toList e.off x.1 x.2.data.toList).1
  stGo e l (addP (e.off+x.1,a) acc.1,addA a acc.2)
def erGo (rs:List DRule):List DEra->List (Int × List UInt8) × List (List UInt8)->List (Int × List UInt8) × List (List UInt8)
 | [],acc=>acc
 | e::l,acc=>erGo rs l (stGo e (ZaG rs e) acc)
def ZcM:List (List UInt8)->Nat
 | []=>0
 | x::l=>x.length+1+ZcM l
def Zem (rs:List DRule)(z:DZone):Bool:=decide ((erGo rs z.eras ([],[])).1.length<=120)&&decide (ZcM (erGo rs z.eras ([],[])).2<=250)
def ZbS (rs:List DRule)(l:List DEra)(i:Nat):Nat->Nat->Option (Zaq × Int)
 | 0,_=>none
 | f+1,k =>
  if ZcZ rs (l.getD k dE0) (decide (k=0))≠0 then some (⟨2,i,k⟩,ZcZ rs (l.getD k dE0) (decide (k=0)))
  else if ZcI rs l k≠0 then some (⟨2,i,k⟩,ZcI rs l k)
  else ZbS rs l i f (k+1)
def Za9 (rs:List DRule):List DZone->Nat->Option (Zaq × Int)
 | [],_=>none
 | z::l,i =>
  if z.eras=[] then some (⟨2,i,0⟩,4)
  else match ZbS rs z.eras i z.eras.length 0 with
   | some x=>some x
   | none=>if Zem rs z=false then some (⟨2,i,0⟩,7) else Za9 rs l (i+1)
def accD (s:DSource):Option (Zaq × Int):=(ZdS s).or ((ZeT s).or ((ZaZ s s.shifts [] 0).or ((ZcV s).or (Za9 s.rules s.zones 0))))
theorem Zec (a b:Zad):ordE a b<0↔a.nominal<b.nominal\/(a.nominal=b.nominal/\(a.rule<b.rule\/(a.rule=b.rule/\a.year<b.year))):=by
 unfold ordE
 repeat' split
 all_goals omega
def ltE (x y:Zad):Bool:=decide (ordE x y<0)
theorem swoE:Go.Sort.SWO ltE where
 irrefl x:=by simp only[ltE,Zec,decide_eq_false_iff_not];omega
 trans x y z h1 h2:=by simp only[ltE,Zec,decide_eq_true_eq]at *;omega
 ntrans x y z h1 h2:=by simp only[ltE,Zec,decide_eq_false_iff_not]at *;omega
theorem totE (x y:Zad)(h1:ltE x y=false)(h2:ltE y x=false):x=y:=by
 simp only[ltE,Zec,decide_eq_false_iff_not]at h1 h2
 obtain⟨a,b,c⟩:=x
 obtain⟨d,e,f⟩:=y
 simp only[Zad.mk.injEq]
 simp only at h1 h2
 omega
def Zcx (least y:Int):List DRule->Nat->List Zad
 | [],_=>[]
 | r::l,i=>(onR least r i y).toList++Zcx least y l (i+1)
def allC (l:List DRule)(least from_:Int):Nat->List Zad
 | 0=>[]
 | k+1=>allC l least from_ k++Zcx least (from_+k) l 0
def insF (a:List Zad)(e:Zad):List Zad:=insE e a
theorem ZfV (least y:Int):∀ (l:List DRule) (i:Nat) (acc:List Zad),Zj3 least y l i acc=(Zcx least y l i).foldl insF acc
 | [],_,_=>rfl
 | r::l,i,acc=>by
  rw[Zj3,Zcx,ZfV least y l]
  cases onR least r i y with
  | none=>rfl
  | some e=>rfl
theorem ZhY (e:Zad):∀ l,(insE e l).Perm (e::l)
 | [] => .refl _
 | x::l=>by
  rw[insE]
  split
  ·exact .refl _
  ·exact((ZhY e l).cons x).trans (.swap _ _ _)
theorem ZlJ:∀ (xs acc:List Zad),(xs.foldl insF acc).Perm (xs++acc)
 | [],_ => .refl _
 | x::xs,acc=>by
  rw[List.foldl_cons]
  refine(ZlJ xs _).trans ?_
  refine((ZhY x acc).append_left xs).trans ?_
  exact List.perm_middle
theorem ZdM (l:List DRule)(least from_:Int):∀ k,(Zet l least from_ k).Perm (allC l least from_ k)
 | 0 => .refl _
 | k+1=>by
  rw[Zet,allC,ZfV]
  refine(ZlJ _ _).trans ?_
  refine List.perm_append_comm.trans ?_
  exact(ZdM l least from_ k).append_right _
def Zrb (l:List Zad):Prop:=l.Pairwise fun a b=>ltE a b=false
theorem ZlL (e:Zad):∀ l,Zrb l->Zrb (insE e l)
 | [],_=>List.pairwise_singleton _ _
 | x::l,h=>by
  obtain⟨h1,h2⟩:=List.pairwise_cons.1 h
  rw[insE]
  split
  ·rename_i hlt
   have hx:ltE x e=true:=decide_eq_true hlt
   have hex:ltE e x=false:=by
    cases h3:ltE e x
    ·rfl
    ·have:=swoE.trans x e x hx h3
     rw[swoE.irrefl]at this
     cases this
   refine List.pairwise_cons.2 ⟨fun b hb=>?_,h⟩
   rcases List.mem_cons.1 hb with rfl|hb
   ·exact hex
   ·exact swoE.ntrans e x b hex (h1 b hb)
  ·rename_i hlt
   have hx:ltE x e=false:=decide_eq_false hlt
   refine List.pairwise_cons.2 ⟨fun b hb=>?_,ZlL e l h2⟩
   rcases List.mem_cons.1 ((ZhY e l).mem_iff.1 hb) with rfl|hb
   ·exact hx
   ·exact h1 b hb
theorem ZlK:∀ (xs acc:List Zad),Zrb acc->Zrb (xs.foldl insF acc)
 | [],_,h=>h
 | x::xs,acc,h=>ZlK xs _ (ZlL x acc h)
theorem Zfh (l:List DRule)(least from_:Int):∀ k,Zrb (Zet l least from_ k)
 | 0=>List.Pairwise.nil
 | k+1=>by
  rw[Zet,ZfV]
  exact ZlK _ _ (Zfh l least from_ k)
theorem ZuP (l:List DRule)(least from_:Int)(k:Nat):(allC l least from_ k).mergeSort (fun x y => !ltE y x)=(Zet l least from_ k).reverse:=by
 refine List.Perm.eq_of_pairwise (le:=fun x y=>(!ltE y x)=true) ?_ ?_ ?_ ?_
 ·intro a b _ _ h1 h2
  simp only[Bool.not_eq_true']at h1 h2
  exact totE a b h2 h1
 ·refine List.pairwise_mergeSort ?_ ?_ _
  ·intro a b c h1 h2
   simp only[Bool.not_eq_true']at h1 h2 ⊢
   exact swoE.ntrans c b a h2 h1
  ·intro a b
   cases h:ltE b a with
   | false=>simp
   | true =>
    have:ltE a b=false:=by
     cases h3:ltE a b
     ·rfl
     ·have:=swoE.trans a b a h3 h
      rw[swoE.irrefl]at this
      cases this
    simp[this]
 ·rw[List.pairwise_reverse]
  exact(Zfh l least from_ k).imp fun h=>by rw[h];rfl
 ·exact(List.mergeSort_perm _ _).trans ((ZdM l least from_ k).symm.trans (List.reverse_perm _).symm)
def Zct:List Zad->Option Zad
 | a::b::l=>if b.nominal - a.nominal<259200 then some b else Zct (b::l)
 | _=>none
theorem Zim (x y:Zad):∀ l:List Zad,Zct (l++[x,y])=(Zct (l++[x])).or (if y.nominal - x.nominal<259200 then some y else none)
 | []=>by simp[Zct]
 | [a]=>by
  simp only[List.cons_append,List.nil_append,Zct]
  by_cases h:x.nominal - a.nominal<259200 <;> simp[h]
 | a::b::l=>by
  have ih:=Zim x y (b::l)
  simp only[List.cons_append,Zct]at ih ⊢
  by_cases h:b.nominal - a.nominal<259200
  ·simp[h]
  ·simp only[if_neg h]
   exact ih
theorem ZjF:∀ l:List Zad,Zct l.reverse=ZgH l
 | []=>rfl
 | [_]=>rfl
 | a::b::l=>by
  have ih:=ZjF (b::l)
  rw[List.reverse_cons]at ih
  rw[ZgH,<- ih,List.reverse_cons,List.reverse_cons,List.append_assoc]
  exact Zim b a l.reverse
theorem Zmi (l:List DRule):Zct ((allC l (Zah l) 1850 701).mergeSort fun x y => !ltE y x)=Zes l:=by
 rw[ZuP,ZjF];rfl
end Go.Proofs.YtpipekfmecikmaaGreatDoor
namespace Go.Wk
open Go Go.RowKit
def beIn (least nominal:Int)(r:DRule)(i y:Int):Nat->Option Zad
 | 0=>none
 | k+1=>match onR least r i y with
  | some e=>if e.nominal<nominal then some e else beIn least nominal r i (y - 1) k
  | none=>beIn least nominal r i (y - 1) k
def Zer (least nominal yr:Int):List DRule->Nat->Option Zad->Option Zad
 | [],_,best=>best
 | r::l,i,best =>
  Zer least nominal yr l (i+1) (match beIn least nominal r i (min (lastY r) (yr+2)) 20 with
   | none=>best
   | some e=>match best with|none=>some e|some b=>if ordE b e<0 then some e else some b)
def befD (l:List DRule)(nominal:Int):Option Zad:=Zer (Zah l) nominal (ZaC nominal) l 0 none
def dR0:DRule:=⟨ByteArray.empty,0,0,0,⟨0,0,0⟩,⟨0,0⟩,0,ByteArray.empty⟩
def ruE (l:List DRule)(e:Zad):DRule:=l.getD e.rule.toNat dR0
theorem walkB1 {G G':Prop}(k:G')(h:Hold G'->G:=by intro k;(first|(apply Go.Wk.RL_pu;rfl;exact Go.Wk.PuA)|(apply Go.Wk.RL_st0;refine Go.Wk.stA ?_)|apply Go.Wk.W_seq|apply Go.Wk.W_region|apply Go.Wk.RL_nil|apply Go.Wk.thenQ_n|apply Go.Wk.W_skip|apply Go.Wk.W_ret|apply Go.Wk.W_exit|apply Go.Wk.thenQ_r|apply Go.Wk.thenQ_e|apply Go.Wk.blockQ_n|apply Go.Wk.blockQ_r|apply Go.Wk.blockQ_hit|(apply Go.Wk.blockQ_miss;rfl)|(apply Go.Wk.W_true;rfl)|(apply Go.Wk.W_false;rfl)|(apply Go.Wk.RL_yes;rfl;rfl;rfl)|(apply Go.Wk.RL_no;rfl;rfl;rfl;rfl;rfl)|(apply Go.Wk.W_draw;rfl;decide +kernel)|apply Go.Wk.RD_done|(apply Go.Wk.RD_Q;rfl;rfl;decide +kernel;rfl;rfl;exact Go.Wk.QyA)|(apply Go.Wk.RD_N;rfl;rfl;decide +kernel;rfl;rfl;rfl)|(apply Go.Wk.RD_A;rfl;rfl;decide +kernel;rfl;rfl;first|exact Go.Wk.Ay_alloc|exact Go.Wk.Ay_buildSlice0|(apply Go.Wk.Ay_buildSliceC;rfl;rfl;rfl;rfl;exact Go.Wk.NfA)|(apply Go.Wk.Ay_buildSliceNf;rfl;rfl;rfl;exact Go.Wk.NfA)));exact k.out):G:=h ⟨k⟩
theorem ZmR {G G':Prop}(k:G')(h:Hold G'->G:=by intro k;refine Go.Wk.walkB1 ?_;(repeat refine Go.Wk.walkB1 ?_);exact k.out):G:=h ⟨k⟩
def Zak (P:Program)(f:FuncId)(args:List Value)(wr:World)(O:List It)(R:Value->List It->Prop):Prop :=
 ∀ w,Bel wr.heap.size wr w->ZaA wr.heap.size O w->Calls P f args.toArray w fun e w'=>∃ v O',e = .returned v/\Bel wr.heap.size wr w'/\ZaA wr.heap.size O' w'/\R v O'
theorem Zfl {P:Program}{f:FuncId}{fn:Func}{c:Code}{args:List Value}{wr:World}{O:List It}{R:Value->List It->Prop}{n:Nat}{rs:List ResultVar}(hf:P.funcs[f]?=some fn)(hb:fn.body=some c)(hn:fn.ntmps=n)(hr:fn.results=rs.toArray)
  (ha:Nat.ble args.length n=true) (h:W P n wr c (retQ P wr rs R) (ZfK 0 args) O):Zak P f args wr O R:=by
 intro w hB hH
 refine calls_of_wp hf hb ?_
 have hst:St n wr (ZfK 0 args) O { tmps:=args.toArray++Array.replicate (fn.ntmps - args.toArray.size) undef,defers:=[] } w:=by
  have ha':args.length<=n:=Nat.le_of_ble_eq_true ha
  refine⟨⟨rfl,by simp;omega,fun t v hv=>?_⟩,hB,hH⟩
  have:=(ZdB args 0 t v hv).2
  simp only[Nat.sub_zero]at this
  have hlt:t<args.length:=(List.getElem?_eq_some_iff.1 this).1
  rw[Array.getElem?_append_left (by simpa using hlt)]
  simpa using this
 refine wp_mono (h _ w hst) ?_
 rintro e a w' ⟨fr,O1,hs,hq⟩
 have fin:(∃ vs O',Zn9 P wr fr O1 rs vs/\SubO O' O1/\R (tupV vs) O')->a.defers=[]/\∃ v,(results fn a.tmps).run P w' = .ok v w'/\∃ v' O,Ending.returned v = .returned v'/\Bel wr.heap.size wr w'/\ZaA wr.heap.size O w'/\R v' O:=by
  rintro⟨vs,O',h1,h2,h3⟩
  refine⟨hs.sim.defers,(tupV vs),?_,_,O',rfl,hs.old,hs.own.sub h2,h3⟩
  unfold results
  rw[hr,List.mapM_toArray]
  simp only[Sem.run_bind,Sem.run_map]
  rw[Zdy (P:=P) hs _ (fun _=>rfl) (fun _ _=>rfl) rs vs h1]
  simp only[Result.andThen_ok,Sem.run_pure]
  congr 1
  clear h1 h3
  match vs with
  | []=>rfl
  | [v]=>rfl
  | v::u::r=>simp;rfl
 cases e with
 | ret=>exact fin hq
 | normal=>exact fin hq
 | _=>exact hq.elim
section
variable {P:Program}{n:Nat}{wr:World}{fr:Fr}{O:List It}{ty:TypeId}{pos:String}{af:Array Edge}{dst:Option Tmp}{g:Option (Nat × Bool)}{Kp:Value->List It->Prop}
theorem Zgk {f:FuncId}{xs:List Operand}{ts:Array TypeId}{vs:List Value}{O2:List It}{R:Value->List It->Prop}[Body P f](hx:evsO fr xs=some vs)(h:Zak P f vs wr O2 R)(hO:SubO O2 O)(k:∀ v O',R v O'->Kp v O') :
  Stp P n wr fr O ⟨dst,.call ⟨.value (.func f),xs.toArray,ts⟩,ty,pos,af,g⟩ Kp:=by
 intro a w hs Kn Q hk
 have hrun:(execOp a.eval ⟨dst,.call ⟨.value (.func f),xs.toArray,ts⟩,ty,pos,af,g⟩).run P w = .ok (.enter f vs.toArray) w:=by
  have:=hs.sim.evsO hx
  simp[execOp,resolve,Act.eval,Deferred.ofValue,invoke,Zci,this]
 unfold Oper.wp
 rw[hrun,Oper.upon_enter]
 refine(h w hs.old (hs.own.sub hO)).mono ?_
 rintro e w' ⟨v,O',rfl,hB,hH,hR⟩
 exact hk v _ w' hB hH (k v O' hR)
theorem ZgZ (N:Nat):∀ (vs cs:List Value) (j:Nat),(lay cs j vs).take N=lay (cs.take N) j vs
 | [],_,_=>rfl
 | v::r,cs,j=>by rw[lay,lay,ZgZ N r,List.take_set]
theorem Zgh {t sz e size m c p:Nat}{ag:Bool}{x y:Operand}{A:Option Addr}{xs xs' vs:List Value}{v:Value}{O':List It}[hT:Ty P t sz ag](hx:ev fr x=some (.pointer (some ((adr A).add p))))(hy:ev fr y=some v)
  (hu:Upd O (.row (.slice A m c) e size m xs) (.row (.slice A m c) e size m xs') O') (hvs:v.cells.toList=vs) (hl:vs.length=sz) (h1:vs.all Value.oneCell'=true) (hp:p+sz<=xs.length) (h0:0<sz) (hc:lay xs p vs=xs')
  (k:Kp undef O'):Stp P n wr fr O ⟨dst,.store t x y,ty,pos,af,g⟩ Kp:=by
 refine Zg9 fun a w hs=>?_
 have hsat:=hs.own.sat _ hu.mem
 obtain⟨hxl,hnn|⟨b,cap,cur,hval,hb0,hg,hmc,hcm,hsz,hcur⟩⟩:=id hsat
 ·obtain⟨_,rfl⟩:=hnn
  simp at hxl
  rw[hxl]at hp
  simp at hp
  omega
 injection hval with hA _ hcc
 subst hA hcc
 have hb:=hs.own.inb _ hu.mem b (by simp[It.S,Value.ownBlock])
 have hxc:xs.length<=cur.size:=by rw[<- hcur,List.length_take,Array.length_toList];omega
 have hg':w.heap[b]?=some (.cells cur.toList.toArray e (0,0)):=by rw[Array.toArray_toList];exact hg
 have had:(adr (some (⟨b,0,none⟩:Addr))).add p=⟨b,p,none⟩:=by
  rw[show adr (some (⟨b,0,none⟩:Addr))=⟨b,0,none⟩ from rfl,ZbV,Nat.zero_add]
 rw[had]at hx
 have hcell:∀ i,w.cell? ⟨b,i,none⟩=cur.toList[i]?:=fun i=>by simp[World.cell?,hg]
 have hfz:∀ i,w.frozen? ⟨b,i,none⟩=false:=fun i=>by simp[World.frozen?,hg]
 have hrun:=Zb8 (P:=P) (ad:=⟨b,p,none⟩) vs w 0 (fun u hu=>List.all_eq_true.1 h1 u hu) (fun i hi=>by
  rw[ZbV,hcell,hfz]
  refine⟨?_,rfl⟩
  rw[List.getElem?_eq_getElem (by rw[Array.length_toList];omega)]
  rfl)
 refine⟨Zba w ⟨b,p,none⟩ vs 0,O',?_,?_,?_,k⟩
 ·have hvsz:v.cells.size=sz:=by rw[<- hl,<- hvs];simp
  simp only[execOp,hs.sim.ev hx,hs.sim.ev hy,Instr.storeAt,Instr.sureAddr,Sem.run_bind,Sem.run_pure,Result.andThen_ok,storeVar,ZcA,hvsz,ne_eq,not_true,if_false,hvs,hrun]
 ·refine hs.old.trans ⟨⟨(Zbb vs w 0).1,(Zbb vs w 0).2.1,(Zbb vs w 0).2.2,by rw[Zbk];exact Nat.le_refl _,fun i hi=>Zbl vs w 0 i (by show i≠b;omega)⟩⟩
 ·refine hs.own.upd hu hs.old.size (by rw[Zbk];exact Nat.le_refl _) (fun i _ hi=>Zbl vs w 0 i (fun e=>hi (by rw[e];simp[It.S,Value.ownBlock]))) ?_ (fun i hi=>Or.inl hi)
  have hblk:=ZcR (b:=b) (j:=p) (t:=e) vs cur.toList w 0 hg'
  simp only[Nat.add_zero]at hblk
  subst hc
  refine⟨by rw[lay_length];exact hxl,.inr ⟨b,c,_,rfl,Nat.zero_le _,hblk,hmc,hcm,?_,?_⟩⟩
  ·rw[List.size_toArray,lay_length,Array.length_toList];exact hsz
  ·rw[List.toList_toArray,ZgZ,hcur]
end
section
variable {P:Program}{n:Nat}{wr:World}{fr:Fr}{O:List It}{ty:TypeId}{pos:String}{af:Array Edge}{dst:Option Tmp}{g:Option (Nat × Bool)}{Kp:Value->List It->Prop}
theorem Zmu {t:TypeId}{x ix:Operand}{s:ByteArray}{kk:IntKind}{i:Int}[hS:StringT P t](hx:ev fr x=some (.string s))(hi:ev fr ix=some (.int kk i))(h0:0<=i)(h1:i<s.size):Pu P n wr fr O (.index t x ix) ty (.int .u8 (s.data.toList.getD i.toNat 0).toNat) :=
 fun a w hs _ _ _ _=>by
  have h:=run_index_string (P:=P) (w:=w) t s kk i hS.h
  rw[dif_pos ⟨h0,h1⟩]at h
  have hlt:i.toNat<s.data.toList.length:=by
   have:s.data.size=s.size:=rfl
   rw[Array.length_toList,this]
   omega
  have e:s.data.toList.getD i.toNat 0=s[i.toNat]'(by omega):=by
   rw[List.getD_eq_getElem?_getD,List.getElem?_eq_getElem hlt]
   rfl
  simp only[execOp,hs.sim.ev hx,hs.sim.ev hi,Sem.run_bind,h,Result.andThen_ok,e]
  rfl
theorem Ztx {t e sz bytes:Nat}{x y:Operand}{A:Option Addr}{len cap:Nat}{l:Int}[hE:ElemZ P t e sz bytes](hx:ev fr x=some (.slice A len cap))(hy:ev fr y=some (.int .i64 l))(h0:0<=l)(h1:l<=len)(h2:l<cap) :
  Pu P n wr fr O (.slice t x (some y) none none) ty (.slice (A.map (·.add (l.toNat*sz))) (len - l.toNat) (cap - l.toNat)):=fun a w hs _ _ _ _=>by
 obtain⟨i,z,ht,hi,hz,hsz,hby,hzs,hpos⟩:=ElemZ.parts hE.h
 have hne:¬ (cap=l.toNat):=by omega
 simp[execOp,hs.sim.ev hx,hs.sim.ev hy,Instr.sliceAt,Instr.slice,run_underlying ht,Instr.sliceBounds,run_sliceBound,h0,h1,sizeOf,typeInfo,hi,hne,hsz]
end
section
variable {P:Program}{n:Nat}{wr:World}{fr:Fr}{O:List It}{ty:TypeId}{pos:String}{af:Array Edge}{dst:Option Tmp}{g:Option (Nat × Bool)}{Kp:Value->List It->Prop}
theorem ZiR {e size m c p:Nat}{A:Option Addr}{xs xs' vs:List Value}{O':List It}{a:Act}{w:World}(hs:St n wr fr O a w)
  (hu:Upd O (.row (.slice A m c) e size m xs) (.row (.slice A m c) e size m xs') O') (h1:vs.all Value.oneCell'=true) (hp:p+vs.length<=xs.length) (h0:0<vs.length) (hc:lay xs p vs=xs') :
  ∃ w',(storeCells ((adr A).add p) vs 0).run P w = .ok () w'/\Bel wr.heap.size wr w'/\ZaA wr.heap.size O' w':=by
 have hsat:=hs.own.sat _ hu.mem
 obtain⟨hxl,hnn|⟨b,cap,cur,hval,hb0,hg,hmc,hcm,hsz,hcur⟩⟩:=id hsat
 ·obtain⟨_,rfl⟩:=hnn
  simp at hxl
  subst hxl
  simp only[List.length_nil]at hp
  omega
 injection hval with hA _ hcc
 subst hA hcc
 have hb:=hs.own.inb _ hu.mem b (by simp[It.S,Value.ownBlock])
 have hxc:xs.length<=cur.size:=by rw[<- hcur,List.length_take,Array.length_toList];omega
 have hg':w.heap[b]?=some (.cells cur.toList.toArray e (0,0)):=by rw[Array.toArray_toList];exact hg
 have had:(adr (some (⟨b,0,none⟩:Addr))).add p=⟨b,p,none⟩:=by
  rw[show adr (some (⟨b,0,none⟩:Addr))=⟨b,0,none⟩ from rfl,ZbV,Nat.zero_add]
 rw[had]
 have hcell:∀ i,w.cell? ⟨b,i,none⟩=cur.toList[i]?:=fun i=>by simp[World.cell?,hg]
 have hfz:∀ i,w.frozen? ⟨b,i,none⟩=false:=fun i=>by simp[World.frozen?,hg]
 have hrun:=Zb8 (P:=P) (ad:=⟨b,p,none⟩) vs w 0 (fun u hu=>List.all_eq_true.1 h1 u hu) (fun i hi=>by
  rw[ZbV,hcell,hfz]
  refine⟨?_,rfl⟩
  rw[List.getElem?_eq_getElem (by rw[Array.length_toList];omega)]
  rfl)
 refine⟨Zba w ⟨b,p,none⟩ vs 0,hrun,?_,?_⟩
 ·refine hs.old.trans ⟨⟨(Zbb vs w 0).1,(Zbb vs w 0).2.1,(Zbb vs w 0).2.2,by rw[Zbk];exact Nat.le_refl _,fun i hi=>Zbl vs w 0 i (by show i≠b;omega)⟩⟩
 ·refine hs.own.upd hu hs.old.size (by rw[Zbk];exact Nat.le_refl _) (fun i _ hi=>Zbl vs w 0 i (fun e=>hi (by rw[e];simp[It.S,Value.ownBlock]))) ?_ (fun i hi=>Or.inl hi)
  have hblk:=ZcR (b:=b) (j:=p) (t:=e) vs cur.toList w 0 hg'
  simp only[Nat.add_zero]at hblk
  subst hc
  refine⟨by rw[lay_length];exact hxl,.inr ⟨b,c,_,rfl,Nat.zero_le _,hblk,hmc,hcm,?_,?_⟩⟩
  ·rw[List.size_toArray,lay_length,Array.length_toList];exact hsz
  ·rw[List.toList_toArray,ZgZ,hcur]
theorem Zq6 {t e sz bytes p k m c cp:Nat}{x:Operand}{ad:Addr}{xs:List Value}{z:Value}{O':List It}[hE:ElemZ P t e sz bytes][hz:ZeroV P e z](hx:ev fr x=some (.slice (some (ad.add p)) k cp))
  (hu:Upd O (.row (.slice (some ad) m c) e sz m xs) (.row (.slice (some ad) m c) e sz m (lay xs p (Builtin.zeroCells z.cells k).toList)) O') (h1:(Builtin.zeroCells z.cells k).toList.all Value.oneCell'=true) (hk:0<k) (hp:p+k*sz<=xs.length)
  (kk:Kp (.tuple #[]) O'):Stp P n wr fr O ⟨dst,.call ⟨.builtin .clear,#[x],#[t]⟩,ty,pos,af,g⟩ Kp:=by
 refine ZbG fun a w hs=>?_
 obtain⟨i,z',ht,hi,hz',hsz,hby,hzs,hpos⟩:=ElemZ.parts hE.h
 have hzz:z'=z:=by
  have h:=hz.h
  unfold ZxY at h
  rw[hi]at h
  exact Option.some.inj (hz'.symm.trans h)
 subst hzz
 have hlen:(Builtin.zeroCells z'.cells k).toList.length=k*sz:=by rw[Array.length_toList,size_zeroCells,hzs]
 obtain⟨w',hr,h2,h3⟩:=ZiR (P:=P) hs hu h1 (by rw[hlen];exact hp) (by rw[hlen];exact Nat.mul_pos hk hpos) rfl
 refine⟨.tuple #[],w',O',?_,h2,h3,kk⟩
 obtain⟨k,rfl⟩:∃ k',k=k'+1:=⟨k - 1,by omega⟩
 have hr':(storeCells (ad.add p) (Builtin.zeroCells z'.cells (k+1)).toList 0).run P w = .ok () w':=hr
 simp[execOp,resolve,invoke,builtin,Builtin.clear_,hs.sim.ev hx,run_underlying ht,Zfr,hr']
theorem Zs7 {ops:Array Oper}{l0:List Oper}{K:Fr->List It->Prop}{e size m c:Nat}{A:Option Addr}{xs:List Value}{O':List It}(k:Nat)(hk:k<=m)(hu:Upd O (.row (.slice A m c) e size m xs) (.row (.slice A k c) e size k (xs.take (k*size))) O')
  (h:RL P n wr ops l0 K fr O'):RL P n wr ops l0 K fr O:=fun a w hs=>h a w ⟨hs.sim,hs.old,by
 refine hs.own.upd hu hs.old.size (Nat.le_refl _) (fun _ _ _=>rfl) ?_ (fun i hi=>?_)
 ·have hsat:=hs.own.sat _ hu.mem
  obtain⟨hxl,hnn|⟨b,cap,cur,hval,hb0,hg,hmc,hcm,hsz,hcur⟩⟩:=hsat
  ·obtain⟨hv,rfl⟩:=hnn
   obtain rfl:k=0:=by omega
   injection hv with h1 _ h3
   subst h1 h3
   exact⟨by simp,.inl ⟨rfl,rfl⟩⟩
  ·injection hval with hA _ hcc
   subst hA hcc
   refine⟨?_,.inr ⟨b,c,cur,rfl,Nat.zero_le _,hg,by omega,hcm,hsz,?_⟩⟩
   ·have hle:k*size<=m*size:=Nat.mul_le_mul_right size hk
    rw[List.length_take,hxl]
    omega
   ·have hle:k*size<=m*size:=Nat.mul_le_mul_right size hk
    rw[<- hcur,List.take_take,Nat.min_eq_left hle]
 ·left
  simp only[It.S,Value.ownBlock]at hi ⊢
  cases A with
  | none=>exact hi
  | some a=>exact hi⟩
end
section
variable {P:Program}{n:Nat}{wr:World}{ops:Array Oper}{fr:Fr}{O:List It}{K:Fr->List It->Prop}{ty:TypeId}
theorem ZvP {t t':TypeId}{x:Operand}{kk:IntKind}{i:Int}{sz:Nat}{ag:Bool}[Ty P t sz ag][IntT P t' .u8](hx:ev fr x=some (.int kk i))(h0:0<=i)(h1:i<=255):Pu P n wr fr O (.convert t t' x) ty (.int .u8 i):=by
 have:=Pu_convI (P:=P) (n:=n) (wr:=wr) (O:=O) (ty:=ty) (t:=t) (t':=t') hx
 rwa[show IntKind.u8.wrap i=i from IntWalk.u8_in i ⟨h0,h1⟩]at this
end
theorem ZaS {P:Program}{n:Nat}{wr:World}{fr:Fr}{O:List It}{ty:TypeId}{t sz e size p m c:Nat}{x:Operand}{A:Option Addr}{xs vs:List Value}{R:List It}[Ty P t sz true](hx:ev fr x=some (.pointer (some ((adr A).add p))))
  (hp:Pick (.row (.slice A m c) e size m xs) O R) (hv:∀ j v,vs[j]?=some v->xs[p+j]?=some v) (hl:vs.length=sz):Pu P n wr fr O (.load t x) ty (.agg vs.toArray) :=
 Zhb hx hl fun w _ hO j v hj=>by
  rw[Zbo]
  exact(ZaD (hO.of hp) (hv j v hj)).2
theorem Zap {P:Program}{n:Nat}{wr:World}{fr:Fr}{O:List It}{ty:TypeId}{t e sz bytes:Nat}{x ix:Operand}{A:Option Addr}{len cap:Nat}{kk:IntKind}{i:Int}[hE:ElemT P t e sz bytes](hx:ev fr x=some (.slice A len cap))(hi:ev fr ix=some (.int kk i))
  (h0:0<=i) (h1:i<len) (hA:∀ w,Bel wr.heap.size wr w->ZaA wr.heap.size O w->A≠none):Pu P n wr fr O (.indexAddr t x ix) ty (.pointer (some ((adr A).add (i.toNat*sz)))) :=
 fun a w hs=>Pu_indexAddr hx hi h0 h1 (hA w hs.old hs.own) a w hs
section
variable {P:Program}{n:Nat}{wr:World}{fr:Fr}{O:List It}{ty:TypeId}{pos:String}{af:Array Edge}{dst:Option Tmp}{g:Option (Nat × Bool)}{Kp:Value->List It->Prop}
end
theorem ZkL {P:Program}{n:Nat}{wr:World}{fr:Fr}{O:List It}{ty:TypeId}{x y:Operand}{ts:Array TypeId}{k:IntKind}{i j:Int}(hx:ev fr x=some (.int k i))(hy:ev fr y=some (.int k j)):Pu P n wr fr O (.call ⟨.builtin .min,#[x,y],ts⟩) ty (.int k (if j<i then j else i)) :=
 fun a w hs _ _ _ _=>by simp[execOp,resolve,invoke,builtin,Builtin.min_,Builtin.min2,hs.sim.ev hx,hs.sim.ev hy]
section
variable {P:Program}{n:Nat}{wr:World}{fr:Fr}{O:List It}{ty:TypeId}
theorem Zy1 {t t':TypeId}{x y:Operand}{kk:IntKind}{i j:Int}(hx:ev fr x=some (.int kk i))(hy:ev fr y=some (.int kk j)):Pu P n wr fr O (.binOp .and t x y t') ty (.int kk (kk.wrap (BitVec.ofInt kk.bits i &&& BitVec.ofInt kk.bits j).toNat)) :=
 fun a w hs _ _ _ _=>by simp[execOp,hs.sim.ev hx,hs.sim.ev hy,eqGuard,binOp,Op.intBits]
end
theorem Does.monoO {P:Program}{f:FuncId}{args:List Value}{w:World}{R R':Value->List It->Prop}(h:Does P f args w R)(hr:∀ v O,R v O->∃ O',R' v O'/\∀ base w',ZaA base O w'->ZaA base O' w'):Does P f args w R' :=
 Calls.mono h fun _ _ ⟨v,O,h1,h2,h3,h4⟩=>by
  obtain⟨O',h5,h6⟩:=hr v O h4
  exact⟨v,O',h1,h2,h6 _ _ h3,h5⟩
section
variable {P:Program}{n:Nat}{wr:World}{fr:Fr}{O:List It}{ty:TypeId}
theorem Zy2 {t t':TypeId}{x y:Operand}{i j:Int}(hx:ev fr x=some (.int .u8 i))(hy:ev fr y=some (.int .u8 j))(h:0<=i+j/\i+j<=255):Pu P n wr fr O (.binOp .add t x y t') ty (.int .u8 (i+j)):=by
 have:=ZkN (P:=P) (n:=n) (wr:=wr) (O:=O) (ty:=ty) (t:=t) (t':=t') hx hy
 rwa[IntWalk.u8_in _ h]at this
end
section
variable {P:Program}{n:Nat}{wr:World}{fr:Fr}{O:List It}{ty:TypeId}{pos:String}{af:Array Edge}{dst:Option Tmp}{g:Option (Nat × Bool)}{Kp:Value->List It->Prop}
end
section
variable {P:Program}{n:Nat}{wr:World}{fr:Fr}{O:List It}{ty:TypeId}{pos:String}{af:Array Edge}{dst:Option Tmp}{g:Option (Nat × Bool)}{Kp:Value->List It->Prop}
theorem Zbt {t sz e size p q m c:Nat}{x:Operand}{A:Option Addr}{xs:List Value}{v:Value}{R:List It}[Ty P t sz false](hx:ev fr x=some (.pointer (some (((adr A).add p).add q))))
  (hp:Pick (.row (.slice A m c) e size m xs) O R) (hv:xs[p+q]?=some v):Pu P n wr fr O (.load t x) ty v :=
 ZbW (by rw[<- Zbo];exact hx) hp hv
end
end Go.Wk
namespace Go.Proofs.YtpipekfmecikmaaGreatDoor
open Go Go.RowKit Go.Wk
def fnV (f:Nat):Value := .func (.func f) #[] #[]
def ZlH:List Value:=[.bool false,.bool true,fnV 383,.bool true,.bool false,fnV 384,.bool true,.bool true,fnV 386,.bool true,.bool true,fnV 388]
def ZfG:List Value:=[fnV 390,.int .i64 3,fnV 392,.int .i64 12,fnV 393,.int .i64 3,fnV 395,.int .i64 3,fnV 397,.int .i64 14,fnV 398,.int .i64 15]
structure Glob (w:World):Prop where
 bef:Zau w ⟨3,0,none⟩ (Za2.map fun n => .int .i64 n)
 kin:Zau w ⟨2,3,none⟩ ZlH
 con:Zau w ⟨4,0,none⟩ ZfG
theorem Glob.up {w w':World}(h:Glob w)(hb:Bel w.heap.size w w'):Glob w' :=
 ⟨h.bef.up hb (Nat.le_refl _),h.kin.up hb (Nat.le_refl _),h.con.up hb (Nat.le_refl _)⟩
end Go.Proofs.YtpipekfmecikmaaGreatDoor
namespace Go.Wk
open Go Go.RowKit
theorem Zfp (a b:Int)(hb:0<b):(a.tmod b<0->a.tdiv b - 1=a / b/\a.tmod b+b=a % b)/\(¬ a.tmod b<0->a.tdiv b=a / b/\a.tmod b=a % b):=by
 have h1:=Int.mul_tdiv_add_tmod a b
 have h2:=Int.tmod_lt_of_pos a hb
 have h3:=Int.lt_tmod_of_pos a hb
 have key:∀ q r:Int,b*q+r=a->0<=r->r<b->q=a / b/\r=a % b:=fun q r h0 h4 h5=>by
  have:=(Int.ediv_emod_unique (a:=a) (r:=r) (q:=q) hb).2 ⟨by omega,h4,h5⟩
  exact⟨this.1.symm,this.2.symm⟩
 constructor
 ·intro h
  exact key _ _ (by rw[Int.mul_sub];omega) (by omega) (by omega)
 ·intro h
  exact key _ _ h1 (by omega) h2
theorem Zhq (a b:Int):a.tmod b=0↔a % b=0:=by rw[<- Int.dvd_iff_tmod_eq_zero,<- Int.dvd_iff_emod_eq_zero]
theorem ZmW (a b:Int) : -(a.natAbs:Int)<=a.tdiv b/\a.tdiv b<=a.natAbs:=by
 have h1:=Int.natAbs_tdiv_le_natAbs a b
 omega
section
variable {P:Program}{n:Nat}{wr:World}{fr:Fr}{O:List It}{ty:TypeId}
theorem Zty {t t':TypeId}{x y:Operand}{i j:Int}(hx:ev fr x=some (.int .i64 i))(hy:ev fr y=some (.int .i64 j))(hj:j≠0)(hn:i.natAbs<=9223372036854775807):Pu P n wr fr O (.binOp .quo t x y t') ty (.int .i64 (i.tdiv j)):=by
 have:=Pu_quo (P:=P) (n:=n) (wr:=wr) (O:=O) (ty:=ty) (t:=t) (t':=t') hx hy hj
 have hb:=ZmW i j
 rwa[Zcd (by omega)]at this
theorem Zoh {x y:Operand}{ts:Array TypeId}{k:IntKind}{i j:Int}(hx:ev fr x=some (.int k i))(hy:ev fr y=some (.int k j)):Pu P n wr fr O (.call ⟨.builtin .max,#[x,y],ts⟩) ty (.int k (if i<j then j else i)) :=
 fun a w hs _ _ _ _=>by simp[execOp,resolve,invoke,builtin,Builtin.max_,Builtin.max2,hs.sim.ev hx,hs.sim.ev hy]
theorem Zbn {t len e sz:Nat}{ag:Bool}{x ix:Operand}{ad:Addr}{kk:IntKind}{i:Int}[hA:ArrT P t len e sz ag](hx:ev fr x=some (.pointer (some ad)))(hi:ev fr ix=some (.int kk i))(h0:0<=i)(h1:i<len) :
  Pu P n wr fr O (.indexAddr t x ix) ty (.pointer (some (ad.add (i.toNat*sz)))) :=
 fun a w hs _ _ _ _=>by
  have h:=hA.h
  unfold ZjM at h
  split at h
  ·rename_i len' e' hu
   split at h
   ·rename_i sz' ag' ht
    simp only[Option.some.injEq,Prod.mk.injEq]at h
    obtain⟨rfl,rfl,rfl,rfl⟩:=h
    obtain⟨inf,dd,hinf,hsz,_,_⟩:=Ty.parts ht
    simp[execOp,hs.sim.ev hx,hs.sim.ev hi,Instr.indexAt,asIntOf,run_underlying hu,Instr.sureAddr,h0,h1,sizeOf,ZaK hinf,hsz]
   ·cases h
  ·cases h
end
section
variable {P:Program}{n:Nat}{wr:World}{ops:Array Oper}{rest:List Oper}{K:Fr->List It->Prop}{fr:Fr}{O:List It}{ty:TypeId}{pos:String}{af:Array Edge}
theorem RL_und {d':Nat}{op:Op}{j:Nat}{b:Bool}{oj:Oper}{d:Nat}(hj:ops[j]?=some oj)(hd:oj.dst=some d)(hb:look fr d=some undef)(hdn:Nat.ble (d'+1) n=true)
  (k:RL P n wr ops rest K ((d',undef)::fr) O):RL P n wr ops (⟨some d',op,ty,pos,af,some (j,b)⟩::rest) K fr O:=by
 intro a w hs
 have:=k (a.put (some d') undef) w ⟨hs.sim.put hdn undef,hs.old,hs.own⟩
 have hw:Region.wanted (⟨some d',op,ty,pos,af,some (j,b)⟩:Oper) (yielded ops a.tmps)=false:=by
  have hy:yielded ops a.tmps j=none:=by simp[yielded,hj,hd,hs.sim.at_ d _ hb,undef]
  simp only[Region.wanted,hy]
  cases b <;> rfl
 simp only[wpList,hw]
 exact this
end
def yN (r:Nat):Nat:=(r - r / 1460+r / 36524 - r / 146096) / 365
def okYN (r:Nat):Bool:=Nat.ble (yN r) 399&&Nat.ble (yN r*365+yN r / 4 - yN r / 100) r&&Nat.ble (r - (yN r*365+yN r / 4 - yN r / 100)) 366&&(Nat.blt r ((yN r+1)*365+(yN r+1) / 4 - (yN r+1) / 100)||Nat.beq (yN r) 399)
def ZvD:Nat->Nat->Bool
 | 0,_=>true
 | k+1,r=>okYN r&&ZvD k (r+1)
theorem Zmj:∀ (k r i:Nat),ZvD k r=true->i<k->okYN (r+i)=true
 | 0,_,_,_,h=>by omega
 | k+1,r,i,h,hi=>by
  rw[ZvD,Bool.and_eq_true]at h
  cases i with
  | zero=>exact h.1
  | succ i =>
   have:=Zmj k (r+1) i h.2 (by omega)
   rwa[show r+1+i=r+(i+1) by omega]at this
theorem ZsY:∀ c,c<1461->ZvD (if c=1460 then 97 else 100) (100*c)=true:=by decide +kernel
theorem Zrf (r:Nat):Zcw (r:Int)=(yN r:Nat):=by
 unfold Zcw yN
 omega
theorem Zrg (k:Nat)(h1:k<146097):okYN k=true:=by
 have h:=Zmj _ (100*(k / 100)) (k % 100) (ZsY _ (by omega)) (by split <;> omega)
 rwa[show 100*(k / 100)+k % 100=k by omega]at h
theorem ZoB (r:Int)(h0:0<=r)(h1:r<146097):0<=Zcw r/\Zcw r<=399/\0<=r - (Zcw r*365+Zcw r / 4 - Zcw r / 100)/\r - (Zcw r*365+Zcw r / 4 - Zcw r / 100)<=366:=by
 obtain⟨k,rfl⟩:=Int.eq_ofNat_of_zero_le h0
 have h:=Zrg k (by omega)
 simp only[okYN,Bool.and_eq_true,Nat.ble_eq]at h
 rw[Zrf]
 omega
end Go.Wk
