/- Parts of the proof. -/
import Derived.Test.YtbjomhdhkpgbaaaGreatDoorV26
import Derived.Test.YtbjomhdhkpgbaaaGreatDoorV24
import Derived.Test.YtbjomhdhkpgbaaaGreatDoorV18
import Derived.Test.YtbjomhdhkpgbaaaGreatDoorV17
import Derived.Test.YtbjomhdhkpgbaaaGreatDoorV15
import Derived.Test.YtbjomhdhkpgbaaaGreatDoorV13
import Derived.Test.YtbjomhdhkpgbaaaGreatDoorV25
set_option maxHeartbeats 4000000
set_option linter.unusedVariables false
set_option linter.unusedSimpArgs false
namespace Go.Wk
open Go Go.RowKit
theorem ZBP {P:Program}{n:Nat}{wr:World}{fr:Fr}{O:List It}{ty:TypeId}{x y:Operand}{ts:Array TypeId}{k:IntKind}{i j:Int}(hx:ev fr x=some (.int k i))(hy:ev fr y=some (.int k j)):Pu P n wr fr O (.call ⟨.builtin .max,#[x,y],ts⟩) ty (.int k (if i<j then j else i)) :=
 fun a w hs _ _ _ _=>by simp[execOp,resolve,invoke,builtin,Builtin.max_,Builtin.max2,hs.sim.ev hx,hs.sim.ev hy]
theorem RdSl.take {α:Type}{w:World}{A:Option Addr}{c:Nat}{enc:α->List Value}{sz:Nat}{xs:List α}(h:RdSl w A c enc sz xs)(k:Nat):RdSl w A c enc sz (xs.take k) :=
 ⟨by rw[List.length_take];exact Nat.le_trans (Nat.min_le_right _ _) h.le,h.cap,fun j x hj=>h.rd j x (by
  rw[List.getElem?_take]at hj
  split at hj
  ·exact hj
  ·cases hj)⟩
theorem E23.len (x:E23):x.enc.length=8:=rfl
end Go.Wk
namespace Go.Proofs.YtbjomhdhkpgbaaaGreatDoor
open Go Go.RowKit Go.Wk
structure DD23 where
 sets:List (List Int)
 zones:List (List E23)
 links:List Int
structure RdLL {α:Type}(w:World)(A:Option Addr)(c:Nat)(enc:α->List Value)(sz:Nat)(ll:List (List α)):Prop where
 le:ll.length<=c
 cap:c<=maxLen
 rd:∀ k l,ll[k]?=some l->A≠none/\∃ B cb,RdSl w B cb enc sz l/\Zam w ((adr A).add (k*1)) [.slice B l.length cb]
theorem RdLL.up {α:Type}{w w':World}{A:Option Addr}{c:Nat}{enc:α->List Value}{sz:Nat}{ll:List (List α)}(h:RdLL w A c enc sz ll)(hb:Bel w.heap.size w w'):RdLL w' A c enc sz ll :=
 ⟨h.le,h.cap,fun k l hk=>by
  obtain⟨h1,B,cb,h2,h3⟩:=h.rd k l hk
  exact⟨h1,B,cb,h2.up hb,h3.up hb (Nat.le_refl _)⟩⟩
theorem RdLL.take {α:Type}{w:World}{A:Option Addr}{c:Nat}{enc:α->List Value}{sz:Nat}{ll:List (List α)}(h:RdLL w A c enc sz ll)(k:Nat):RdLL w A c enc sz (ll.take k) :=
 ⟨by rw[List.length_take];exact Nat.le_trans (Nat.min_le_right _ _) h.le,h.cap,fun j x hj=>h.rd j x (by
  rw[List.getElem?_take]at hj
  split at hj
  ·exact hj
  ·cases hj)⟩
def d23V (As Az Al:Option Addr)(cs cz cl:Nat)(d:DD23):Value := .agg #[.slice As d.sets.length cs,.slice Az d.zones.length cz,.slice Al d.links.length cl]
def e23Z:E23:=⟨0,0,0,0,0,0,0,0⟩
def sZ:ByteArray:=⟨#[65,114,101,97,47,90]⟩
def sL:ByteArray:=⟨#[79,108,100,47,76]⟩
def DD23.ns (d:DD23):Nat:=max 1 (min d.sets.length 3)
def Za5 (sets:List (List Int)):Nat->List Zab
 | 0=>[]
 | k+1=>Za5 sets k++Zb3 (sets.getD k []) (sR++dig k)
def zl23 (zones:List (List E23)):List (List E23):=if zones.length=0 then [[]] else zones.take 3
def el23 (l:List E23):List E23:=if l.length=0 then [e23Z] else l.take 4
def ZaY (sets:Int)(l:List E23):Nat->List DEra × Int
 | 0=>([],1904)
 | k+1=>((ZaY sets l k).1++[Zl1 (l.getD k e23Z) (decide ((k:Int)=0)) sets ((ZaY sets l k).2+(1+(l.getD k e23Z).years % 30)) (decide ((k:Int)<(l.length:Int) - 1))],(ZaY sets l k).2+(1+(l.getD k e23Z).years % 30))
def ZqM (sets:Int)(i:Nat)(l:List E23):ZaO:=⟨sZ++dig i,(ZaY sets (el23 l) (el23 l).length).1⟩
def ZbJ (sets:Int)(zs:List (List E23)):Nat->List ZaO
 | 0=>[]
 | i+1=>ZbJ sets zs i++[ZqM sets i (zs.getD i [])]
def Zh4 (nz:Nat)(n:Int)(i:Nat):Zbl:=⟨if n % ((nz:Int)+i) >= nz then sL++dig (n % ((nz:Int)+i) - nz) else sZ++dig (n % (nz:Int)),sL++dig i⟩
def ZbM (nz:Nat)(links:List Int):Nat->List Zbl
 | 0=>[]
 | i+1=>ZbM nz links i++[Zh4 nz (links.getD i 0) i]
def Zai (d:DD23):Zac:=⟨Za5 d.sets d.ns,ZbJ d.ns (zl23 d.zones) (zl23 d.zones).length,ZbM (zl23 d.zones).length (d.links.take 4) (d.links.take 4).length,[]⟩
theorem ZkS (l:List Int)(x:ByteArray):(Zb3 l x).length<=5:=by
 obtain⟨q1,q2,q3⟩:=Zi8 l
 obtain⟨q4,q5,q6⟩:=Zny l (m1 l).1 (m1 l).2 q1 q2 q3
 rw[Zb3,List.length_map,m3,List.length_append,Zdw]
 omega
theorem Zdv (sets:List (List Int)):∀ k,(Za5 sets k).length<=5*k
 | 0=>Nat.le_refl _
 | k+1=>by
  have:=Zdv sets k
  have h2:=ZkS (sets.getD k []) (sR++dig k)
  rw[Za5,List.length_append]
  omega
theorem ZdN (zs:List (List E23)):1<=(zl23 zs).length/\(zl23 zs).length<=3:=by
 unfold zl23
 split
 ·simp
 ·rw[List.length_take];omega
theorem Zrz (l:List E23):1<=(el23 l).length/\(el23 l).length<=4:=by
 unfold el23
 split
 ·simp
 ·rw[List.length_take];omega
theorem ZfM (sets:Int)(l:List E23):∀ k,(ZaY sets l k).1.length=k
 | 0=>rfl
 | k+1=>by simp[ZaY,ZfM sets l k]
theorem ZjE (sets:Int)(l:List E23)(hl:∀ e∈l,e.ok):∀ k:Nat,1904<=(ZaY sets l k).2/\(ZaY sets l k).2<=1904+30*k
 | 0=>by simp[ZaY]
 | k+1=>by
  obtain⟨h1,h2⟩:=ZjE sets l hl k
  have h3:=Int.emod_nonneg (l.getD k e23Z).years (b:=30) (by decide)
  have h4:=Int.emod_lt_of_pos (l.getD k e23Z).years (b:=30) (by decide)
  simp only[ZaY]
  omega
theorem ZcC (sets:Int)(zs:List (List E23)):∀ k,(ZbJ sets zs k).length=k
 | 0=>rfl
 | k+1=>by simp[ZbJ,ZcC sets zs k]
theorem ZdA (nz:Nat)(links:List Int):∀ k,(ZbM nz links k).length=k
 | 0=>rfl
 | k+1=>by simp[ZbM,ZdA nz links k]
def sN (j:Nat):ByteArray:=sR++dig (j:Int)
theorem ZDb:∀ i j:Fin 3,i≠j->sN i.val≠sN j.val:=by decide +kernel
theorem ZB9:∀ i:Fin 3,setB (sN i.val)=true:=by decide +kernel
theorem Zde (sets:List (List Int)):∀ m,∀ r∈Za5 sets m,∃ j,j<m/\r.name=sN j
 | 0,r,h=>by cases h
 | m+1,r,h=>by
  rw[Za5,List.mem_append]at h
  rcases h with h|h
  ·obtain⟨j,h1,h2⟩:=Zde sets m r h
   exact⟨j,by omega,h2⟩
  ·exact⟨m,by omega,Zfk _ _ r h⟩
theorem Zhs (sets:List (List Int)):∀ m,m<=3->∀ j,j<3->ofB (Za5 sets m) (sN j)=if j<m then Zb3 (sets.getD j []) (sN j) else []
 | 0,_,j,_=>rfl
 | m+1,hm,j,hj=>by
  rw[Za5,ZAX,Zhs sets m (by omega) j hj]
  by_cases h:j=m
  ·subst h
   rw[if_neg (by omega),if_pos (by omega),List.nil_append]
   exact ZAY (Zfk _ _)
  ·have hno:ofB (Zb3 (sets.getD m []) (sR++dig (m:Int))) (sN j)=[]:=ZCk (y:=sN m) (Zfk _ _) (ZDb ⟨m,by omega⟩ ⟨j,hj⟩ fun e=>h (Fin.mk.inj e).symm)
   rw[hno,List.append_nil]
   by_cases h2:j<m
   ·rw[if_pos h2,if_pos (by omega)]
   ·rw[if_neg h2,if_neg (by omega)]
theorem Zer (sets:List (List Int))(m:Nat)(hm:m<=3)(j:Nat)(hj:j<m):ZcL (ofB (Za5 sets m) (sN j))/\(ofB (Za5 sets m) (sN j)).length<=5:=by
 rw[Zhs sets m hm j (by omega),if_pos hj]
 exact⟨ZsO _ _,ZsP _ _⟩
theorem Zm7 (sets:List (List Int))(m:Nat)(hm:m<=3):Zd8 (Za5 sets m) (ZaS (Za5 sets m) [])=none:=by
 refine Zfa _ fun x hx=>?_
 rcases Zeu _ _ x hx with h|⟨r,h1,h2⟩
 ·cases h
 ·obtain⟨j,h3,h4⟩:=Zde sets m r h1
  rw[<- h2,h4]
  exact(Zer sets m hm j h3).1.fault (ZB9 ⟨j,by omega⟩)
theorem ZvB (n:Int):ZhA n∈fmtU:=by
 have h0:=Int.emod_nonneg n (b:=6) (by decide)
 have h1:=Int.emod_lt_of_pos n (b:=6) (by decide)
 unfold ZhA
 generalize n % 6=x at *
 have hc:x=0\/x=1\/x=2\/x=3\/x=4\/x=5:=by omega
 rcases hc with rfl|rfl|rfl|rfl|rfl|rfl
 ·exact .head _
 ·exact .tail _ (.head _)
 ·exact .tail _ (.tail _ (.tail _ (.tail _ (.tail _ (.tail _ (.head _))))))
 ·exact .tail _ (.tail _ (.tail _ (.head _)))
 ·exact .tail _ (.tail _ (.tail _ (.tail _ (.head _))))
 ·exact .tail _ (.tail _ (.tail _ (.tail _ (.tail _ (.tail _ (.tail _ (.head _)))))))
theorem ZyO (rs:List Zab)(ns:Nat)(hns:1<=ns)(e:E23)(k:Nat)(year:Int)(fin_:Bool)(hs:∀ j,j<ns->ZcL (ofB rs (sN j))/\(ofB rs (sN j)).length<=5) :
  Zb1 rs (Zl1 e (decide ((k:Int)=0)) ns year fin_) (decide (k=0)):=by
 have o:=ZgB e.off 48 (by decide)
 have hf:=ZvB e.format
 have hk0:=Int.emod_nonneg e.kind (b:=3) (by decide)
 have hk1:=Int.emod_lt_of_pos e.kind (b:=3) (by decide)
 have hs0:=Int.emod_nonneg e.set (b:=4) (by decide)
 have hs1:=Int.emod_lt_of_pos e.set (b:=4) (by decide)
 have ht0:=Int.emod_nonneg e.set (b:=(ns:Int)) (by omega)
 have ht1:=Int.emod_lt_of_pos e.set (b:=(ns:Int)) (by omega)
 have hkd:ZdP e (decide ((k:Int)=0))=0\/ZdP e (decide ((k:Int)=0))=1\/(ZdP e (decide ((k:Int)=0))=2/\k≠0):=by
  unfold ZdP
  split
  ·exact .inl rfl
  ·rename_i hh
   have hc:e.kind % 3=0\/e.kind % 3=1\/e.kind % 3=2:=by omega
   rcases hc with hc|hc|hc
   ·exact .inl hc
   ·exact .inr (.inl hc)
   ·refine .inr (.inr ⟨hc,fun hk=>hh ⟨?_,hc⟩⟩)
    subst hk
    rfl
 unfold Zb1 Zl1
 dsimp only
 rcases hkd with h|h|⟨h,hk⟩
 ·refine .inl ⟨h,?_,?_,by omega,by omega,hf⟩
  ·unfold Zfc;rw[if_neg (by omega)]
  ·unfold ZiW;rw[if_neg (by omega)]
 ·refine .inr (.inl ⟨h,?_,?_,by omega,by omega,hf⟩)
  ·unfold Zfc;rw[if_pos h];omega
  ·unfold ZiW;rw[if_neg (by omega)]
 ·have he:ZiW e (decide ((k:Int)=0)) ns=sN (e.set % (ns:Int)).toNat:=by
   unfold ZiW sN
   rw[if_pos h,Int.toNat_of_nonneg ht0]
  obtain⟨h1,h2⟩:=hs (e.set % (ns:Int)).toNat (by omega)
  refine .inr (.inr ⟨h,decide_eq_false hk,?_,by omega,by omega,hf,?_,?_⟩)
  ·unfold Zfc;rw[if_neg (by omega)]
  ·rw[he];exact h1
  ·rw[he];exact h2
theorem ZfN (ns:Int)(l:List E23):∀ (c k:Nat) (e:DEra),(ZaY ns l c).1[k]?=some e->k<c/\e=Zl1 (l.getD k e23Z) (decide ((k:Int)=0)) ns (ZaY ns l (k+1)).2 (decide ((k:Int)<(l.length:Int) - 1))
 | 0,k,e,h=>by simp[ZaY]at h
 | c+1,k,e,h=>by
  have hl:=ZfM ns l c
  simp only[ZaY]at h
  rcases Nat.lt_trichotomy k c with hk|hk|hk
  ·rw[List.getElem?_append_left (by omega)]at h
   obtain⟨h1,h2⟩:=ZfN ns l c k e h
   exact⟨by omega,h2⟩
  ·rw[List.getElem?_append_right (by omega),hl,hk,Nat.sub_self]at h
   simp only[List.getElem?_cons_zero,Option.some.injEq]at h
   subst h hk
   exact⟨by omega,rfl⟩
  ·rw[List.getElem?_eq_none (by simp;omega)]at h
   cases h
theorem ZjD (ns:Int)(l:List E23):∀ k:Nat,1904+k<=(ZaY ns l k).2/\(ZaY ns l k).2<=1904+30*k/\(ZaY ns l k).2<(ZaY ns l (k+1)).2
 | 0=>by
  have h3:=Int.emod_nonneg (l.getD 0 e23Z).years (b:=30) (by decide)
  simp only[ZaY]
  omega
 | k+1=>by
  obtain⟨h1,h2,_⟩:=ZjD ns l k
  have h3:=Int.emod_nonneg (l.getD k e23Z).years (b:=30) (by decide)
  have h4:=Int.emod_lt_of_pos (l.getD k e23Z).years (b:=30) (by decide)
  have h5:=Int.emod_nonneg (l.getD (k+1) e23Z).years (b:=30) (by decide)
  simp only[ZaY]at h1 h2 ⊢
  omega
theorem ZtG (rs:List Zab)(ns:Nat)(hns:1<=ns)(i:Nat)(l:List E23)(hs:∀ j,j<ns->ZcL (ofB rs (sN j))/\(ofB rs (sN j)).length<=5):∃ Y,ZcB rs (ZqM ns i l).eras Y:=by
 have hl:=Zrz l
 show ∃ Y,ZcB rs (ZaY ns (el23 l) (el23 l).length).1 Y
 generalize el23 l=m at *
 have hlen:=ZfM ns m m.length
 refine⟨fun k=>(ZaY ns m (k+1)).2 - 1,by omega,fun k e he=>?_,fun k hk=>?_,fun k hk=>?_,fun k e he=>?_⟩
 ·obtain⟨h1,rfl⟩:=ZfN ns m m.length k e he
  exact ZyO rs ns hns _ k _ _ hs
 ·have:=ZjD ns m (k+1)
  omega
 ·have:=ZjD ns m (k+1)
  show(ZaY ns m (k+1)).2 - 1<(ZaY ns m (k+1+1)).2 - 1
  omega
 ·obtain⟨h1,rfl⟩:=ZfN ns m m.length k e he
  generalize m.getD k e23Z=x at *
  have o:=ZgB x.at_ 24 (by decide)
  have b0:=Int.emod_nonneg x.base (b:=3) (by decide)
  have b1:=Int.emod_lt_of_pos x.base (b:=3) (by decide)
  have d0:=Int.emod_nonneg x.day (b:=20) (by decide)
  have d1:=Int.emod_lt_of_pos x.day (b:=20) (by decide)
  have w0:=Int.emod_nonneg x.day (b:=7) (by decide)
  have w1:=Int.emod_lt_of_pos x.day (b:=7) (by decide)
  show if k+1<_ then ZxA (ZmS x (ZaY ns m (k+1)).2 (decide ((k:Int)<(m.length:Int) - 1))) ((ZaY ns m (k+1)).2 - 1) else ZmS x (ZaY ns m (k+1)).2 (decide ((k:Int)<(m.length:Int) - 1))=ZA1
  rw[hlen]
  by_cases hk:k+1<m.length
  ·rw[if_pos hk,decide_eq_true (by omega)]
   unfold ZmS
   rw[if_pos rfl]
   refine .inr ⟨ZvT x,_,_,by rw[show(ZaY ns m (k+1)).2 - 1+1=(ZaY ns m (k+1)).2 by omega],?_,by omega,by omega,by omega,by omega⟩
   unfold ZvT
   split
   ·exact .inr ⟨rfl,⟨w0,by dsimp only;omega⟩,rfl⟩
   ·exact .inl ⟨rfl,rfl,by dsimp only;omega,by dsimp only;omega⟩
  ·rw[if_neg hk,decide_eq_false (by omega)]
   rfl
theorem Zkr (rs:List Zab)(ns:Nat)(hns:1<=ns)(zs:List (List E23))(hs:∀ j,j<ns->ZcL (ofB rs (sN j))/\(ofB rs (sN j)).length<=5):∀ i,∀ z∈ZbJ ns zs i,∃ Y,ZcB rs z.eras Y
 | 0,z,h=>by cases h
 | i+1,z,h=>by
  rw[ZbJ,List.mem_append,List.mem_singleton]at h
  rcases h with h|rfl
  ·exact Zkr rs ns hns zs hs i z h
  ·exact ZtG rs ns hns i _ hs
theorem ns23 (d:DD23):1<=d.ns/\d.ns<=3:=by unfold DD23.ns;omega
theorem ZbF (d:DD23):∀ z∈(Zai d).zones,∃ Y,ZcB (Zai d).rules z.eras Y :=
 Zkr (Za5 d.sets d.ns) d.ns (ns23 d).1 (zl23 d.zones) (fun j hj=>Zer d.sets d.ns (ns23 d).2 j hj) (zl23 d.zones).length
theorem Zpw (d:DD23):Zih (Zai d)=none:=Zm7 d.sets d.ns (ns23 d).2
def Zgg:List ByteArray:=[⟨#[65,114,101,97,47,90,48]⟩,⟨#[65,114,101,97,47,90,49]⟩,⟨#[65,114,101,97,47,90,50]⟩]
def Zfl:List ByteArray:=[⟨#[79,108,100,47,76,48]⟩,⟨#[79,108,100,47,76,49]⟩,⟨#[79,108,100,47,76,50]⟩,⟨#[79,108,100,47,76,51]⟩]
theorem Zkt:∀ i:Fin 3,sZ++dig ((i.val:Nat):Int)=Zgg.getD i.val ByteArray.empty:=by decide +kernel
theorem ZkU:∀ i:Fin 4,sL++dig ((i.val:Nat):Int)=Zfl.getD i.val ByteArray.empty:=by decide +kernel
def ZsR (nz c:Nat):ByteArray:=if c<nz then Zgg.getD c ByteArray.empty else Zfl.getD (c - nz) ByteArray.empty
def ZgQ (nz:Nat)(c:Nat->Nat):Nat->List Zbl
 | 0=>[]
 | i+1=>ZgQ nz c i++[⟨ZsR nz (c i),Zfl.getD i ByteArray.empty⟩]
def ZiC:Nat->List ZaO
 | 0=>[]
 | i+1=>ZiC i++[⟨Zgg.getD i ByteArray.empty,[]⟩]
def ch4 (a b c d:Nat)(i:Nat):Nat:=match i with|0=>a|1=>b|2=>c|_=>d
theorem ZpC:∀ nz:Fin 4,∀ nl:Fin 5,∀ a:Fin 3,∀ b:Fin 4,∀ c:Fin 5,∀ d:Fin 6,a.val<nz.val->b.val<nz.val+1->c.val<nz.val+2->d.val<nz.val+3 ->
  Zda ⟨[],ZiC nz.val,ZgQ nz.val (ch4 a.val b.val c.val d.val) nl.val,[]⟩=none:=by decide +kernel
theorem ZcU (sets:Int)(zs:List (List E23)):∀ i,i<=3->(ZbJ sets zs i).map Zko=ZiC i
 | 0,_=>rfl
 | i+1,h=>by
  rw[ZbJ,List.map_append,ZcU sets zs i (by omega),ZiC,<- Zkt ⟨i,by omega⟩]
  rfl
theorem Zu6 (nz:Nat)(h1:1<=nz)(h3:nz<=3)(n:Int)(i:Nat)(hi:i<4):∃ c,c<nz+i/\Zh4 nz n i=⟨ZsR nz c,Zfl.getD i ByteArray.empty⟩:=by
 have a0:=Int.emod_nonneg n (b:=(nz:Int)+i) (by omega)
 have a1:=Int.emod_lt_of_pos n (b:=(nz:Int)+i) (by omega)
 have b0:=Int.emod_nonneg n (b:=(nz:Int)) (by omega)
 have b1:=Int.emod_lt_of_pos n (b:=(nz:Int)) (by omega)
 unfold Zh4
 rw[ZkU ⟨i,hi⟩]
 by_cases h:n % ((nz:Int)+i) >= nz
 ·refine⟨(n % ((nz:Int)+i)).toNat,by omega,?_⟩
  rw[if_pos h]
  unfold ZsR
  rw[if_neg (by omega),<- ZkU ⟨(n % ((nz:Int)+i)).toNat - nz,by omega⟩]
  dsimp only
  rw[show(((n % ((nz:Int)+i)).toNat - nz:Nat):Int)=n % ((nz:Int)+i) - nz by omega]
 ·refine⟨(n % (nz:Int)).toNat,by omega,?_⟩
  rw[if_neg h]
  unfold ZsR
  rw[if_pos (by omega),<- Zkt ⟨(n % (nz:Int)).toNat,by omega⟩]
  dsimp only
  rw[Int.toNat_of_nonneg b0]
theorem ZeA (nz:Nat)(c c':Nat->Nat):∀ n,(∀ i,i<n->c i=c' i)->ZgQ nz c n=ZgQ nz c' n
 | 0,_=>rfl
 | n+1,h=>by rw[ZgQ,ZgQ,ZeA nz c c' n fun i hi=>h i (by omega),h n (by omega)]
theorem Zdz (nz:Nat)(h1:1<=nz)(h3:nz<=3)(L:List Int):∀ i:Nat,i<=4->∃ c:Nat->Nat,(∀ k,c k<nz+k)/\ZbM nz L i=ZgQ nz c i
 | 0,_=>⟨fun _=>0,fun k=>by dsimp only;omega,rfl⟩
 | i+1,h=>by
  obtain⟨c,q1,q2⟩:=Zdz nz h1 h3 L i (by omega)
  obtain⟨x,q3,q4⟩:=Zu6 nz h1 h3 (L.getD i 0) i (by omega)
  refine⟨fun k=>if k=i then x else c k,fun k=>?_,?_⟩
  ·dsimp only
   split
   ·rename_i e;rw[e];exact q3
   ·exact q1 k
  ·rw[ZbM,q2,q4,ZgQ,ZeA nz (fun k=>if k=i then x else c k) c i fun k hk=>if_neg (by omega),if_pos rfl]
theorem Zh0 (d:DD23):Zda (Zai d)=none:=by
 obtain⟨z1,z3⟩:=ZdN d.zones
 have hl:(d.links.take 4).length<=4:=by rw[List.length_take];omega
 obtain⟨c,q1,q2⟩:=Zdz (zl23 d.zones).length z1 z3 (d.links.take 4) (d.links.take 4).length hl
 rw[Zgr]
 unfold Zai Zf0
 dsimp only
 rw[ZcU _ _ _ z3,q2,ZeA _ c (ch4 (c 0) (c 1) (c 2) (c 3)) _ fun i hi=>by
  have hc:i=0\/i=1\/i=2\/i=3:=by omega
  rcases hc with rfl|rfl|rfl|rfl <;> rfl]
 have r0:=q1 0
 have r1:=q1 1
 have r2:=q1 2
 have r3:=q1 3
 exact ZpC ⟨_,by omega⟩ ⟨_,by omega⟩ ⟨c 0,by omega⟩ ⟨c 1,by omega⟩ ⟨c 2,by omega⟩ ⟨c 3,by omega⟩ (by dsimp only;omega) (by dsimp only;omega) (by dsimp only;omega) (by dsimp only;omega)
theorem ZhZ (d:DD23):ZeT (Zai d)=none:=by
 have h1:=Zdv d.sets d.ns
 have hm:=(ns23 d).2
 obtain⟨z1,z3⟩:=ZdN d.zones
 have hr:(Zai d).rules.length<=15:=by
  show(Za5 d.sets d.ns).length<=15
  omega
 have hz:(Zai d).zones.length<=3:=by
  show(ZbJ d.ns (zl23 d.zones) (zl23 d.zones).length).length<=3
  rw[ZcC];exact z3
 have hk:(Zai d).links.length<=4:=by
  show(ZbM (zl23 d.zones).length (d.links.take 4) (d.links.take 4).length).length<=4
  rw[ZdA,List.length_take];omega
 have hf:(Zai d).zones.findIdx? (fun z=>decide (60<z.eras.length))=none:=by
  rw[List.findIdx?_eq_none_iff]
  intro z hz
  obtain⟨Y,h⟩:=ZbF d z hz
  have:=h.len
  exact decide_eq_false (by omega)
 unfold ZeT
 rw[if_neg (by omega),if_neg (by omega),hf]
 dsimp only
 rw[if_neg (by omega),if_neg (by show ¬ 2000<([]:List ByteArray).length;decide)]
theorem ZfH (d:DD23):accD (Zai d)=none:=by
 unfold accD
 rw[ZhZ d,Zpw d,Zh0 d,Ze1 _ 0 (ZbF d)]
 rfl
structure SmE (e:DEra):Prop where
 set:e.set.size<=100
 fmt:e.format.size<=100
 off : -1000000<=e.off/\e.off<=1000000
 save : -1000000<=e.save/\e.save<=1000000
 kind : -1000000<=e.kind/\e.kind<=1000000
structure Sml (s:Zac):Prop where
 nr:s.rules.length<=100
 nz:s.zones.length<=100
 nl:s.links.length<=100
 ns:s.shifts.length<=100
 rs:∀ r∈s.rules,r.name.size<=100/\r.letter.size<=100/\-1000000<=r.save/\r.save<=1000000
 zs:∀ z∈s.zones,z.name.size<=100/\z.eras.length<=100/\∀ e∈z.eras,SmE e
 ls:∀ l∈s.links,l.target.size<=100/\l.name.size<=100
theorem Sml.acc {w:World}{Ar Az Al As:Option Addr}{cr cz cl cs:Nat}{a:Zac}(h:Sml a)(hL:LibW w)(hG:Glob w)(hA:Zan w Ar Az Al As cr cz cl cs a):Zd5 w Ar Az Al As cr cz cl cs a where
 L:=hL
 G:=hG
 A:=hA
 S:=⟨by have:=h.nr;omega,by have:=h.nz;omega,by have:=h.nl;omega,by have:=h.ns;omega,fun r hr=>by obtain⟨h1,h2,_⟩:=h.rs r hr;omega,fun z hz=>by
  obtain⟨h1,h2,h3⟩:=h.zs z hz
  exact⟨by omega,by omega,fun e he=>by have h4:=(h3 e he).set;have h5:=(h3 e he).fmt;omega⟩,fun l hl=>by obtain⟨h1,h2⟩:=h.ls l hl;omega⟩
 V:=fun r hr=>by obtain⟨_,_,h1,h2⟩:=h.rs r hr;omega
 Z:=fun z hz e he=>by
  have h1:=(h.zs z hz).2.2 e he
  have h2:=h1.off
  have h3:=h1.save
  have h4:=h1.kind
  have h5:=h1.fmt
  exact⟨by unfold I64;omega,by unfold I64;omega,by unfold I64;omega,by omega⟩
theorem Zrf {x:ByteArray}(h:x∈[ByteArray.empty,(⟨#[83]⟩:ByteArray),⟨#[68]⟩,⟨#[68,84]⟩]):x.size<=100:=by
 have:∀ x∈[ByteArray.empty,(⟨#[83]⟩:ByteArray),⟨#[68]⟩,⟨#[68,84]⟩],x.size<=100:=by decide
 exact this x h
theorem Zrs {f:ByteArray}(h:f∈fmtU):f.size<=100:=by
 have h1:∀ f∈fmtU,f.size<=100:=by decide
 exact h1 f h
theorem Zb1.sm {rs:List Zab}{e:DEra}{first:Bool}(h:Zb1 rs e first)(hn:∀ r∈rs,r.name.size<=100):SmE e:=by
 refine⟨?_,Zrs h.fmt,?_,?_,?_⟩
 ·rcases h with⟨_,_,h,_⟩|⟨_,_,h,_⟩|⟨_,_,_,_,_,_,h,_⟩
  ·rw[h];exact Nat.zero_le _
  ·rw[h];exact Nat.zero_le _
  ·obtain⟨_,_,_,⟨r,hr,_⟩,_⟩:=h.saves
   obtain⟨h1,h2⟩:=List.mem_filter.1 hr
   have h3:r.name=e.set:=by simpa using h2
   rw[<- h3]
   exact hn r h1
 ·rcases h with⟨_,_,_,h1,h2,_⟩|⟨_,_,_,h1,h2,_⟩|⟨_,_,_,h1,h2,_⟩ <;> omega
 ·rcases h with⟨_,h1,_⟩|⟨_,h1,_⟩|⟨_,_,h1,_⟩ <;> omega
 ·rcases h with⟨h1,_⟩|⟨h1,_⟩|⟨h1,_⟩ <;> omega
theorem ZAO:∀ i:Fin 3,(sN i.val).size<=100:=by decide +kernel
theorem ZhU (j:Nat):(Zgg.getD j ByteArray.empty).size<=100:=by
 rcases j with _|_|_|j
 ·decide
 ·decide
 ·decide
 ·exact Nat.zero_le _
theorem Zh2 (j:Nat):(Zfl.getD j ByteArray.empty).size<=100:=by
 rcases j with _|_|_|_|j
 ·decide
 ·decide
 ·decide
 ·decide
 ·exact Nat.zero_le _
theorem Zdy (d:DD23):∀ r∈(Zai d).rules,DrRule r/\r.name.size<=100:=fun r hr=>by
 obtain⟨j,h1,h2⟩:=Zde d.sets d.ns r hr
 have hS:=(Zer d.sets d.ns (ns23 d).2 j h1).1
 have h3:=(ns23 d).2
 exact⟨hS.rule r (List.mem_filter.2 ⟨hr,decide_eq_true h2⟩),h2▸ZAO ⟨j,by omega⟩⟩
theorem ZkT (nz:Nat)(c:Nat->Nat):∀ n,∀ l∈ZgQ nz c n,l.target.size<=100/\l.name.size<=100
 | 0,l,h=>by cases h
 | n+1,l,h=>by
  rw[ZgQ,List.mem_append,List.mem_singleton]at h
  rcases h with h|rfl
  ·exact ZkT nz c n l h
  ·refine⟨?_,Zh2 n⟩
   show(ZsR nz (c n)).size<=100
   unfold ZsR
   split
   ·exact ZhU _
   ·exact Zh2 _
theorem Zku:∀ n,∀ z∈ZiC n,z.name.size<=100
 | 0,z,h=>by cases h
 | n+1,z,h=>by
  rw[ZiC,List.mem_append,List.mem_singleton]at h
  rcases h with h|rfl
  ·exact Zku n z h
  ·exact ZhU n
theorem Zi7 (d:DD23):(Zai d).zones.length=(zl23 d.zones).length:=ZcC _ _ _
theorem Znw (d:DD23):(Zai d).links.length<=4:=by
 show(ZbM (zl23 d.zones).length (d.links.take 4) (d.links.take 4).length).length<=4
 rw[ZdA,List.length_take];omega
theorem Zdp (d:DD23):Sml (Zai d):=by
 have h1:=Zdv d.sets d.ns
 have hm:=(ns23 d).2
 obtain⟨z1,z3⟩:=ZdN d.zones
 have hb:=ZcU d.ns (zl23 d.zones) _ z3
 refine⟨?_,?_,?_,?_,?_,?_,?_⟩
 ·show(Za5 d.sets d.ns).length<=100
  omega
 ·rw[Zi7];omega
 ·have:=Znw d;omega
 ·exact Nat.zero_le _
 ·intro r hr
  obtain⟨q1,q2⟩:=Zdy d r hr
  have:=q1.save
  exact⟨q2,Zrf q1.letter,by omega,by omega⟩
 ·intro z hz
  obtain⟨Y,hY⟩:=ZbF d z hz
  have hl:=hY.len
  refine⟨?_,by omega,fun e he=>?_⟩
  ·refine Zku (zl23 d.zones).length (Zko z) ?_
   rw[<- hb]
   exact List.mem_map_of_mem hz
  ·obtain⟨k,hk⟩:=List.getElem?_of_mem he
   exact(hY.era k e hk).sm fun r hr=>(Zdy d r hr).2
 ·obtain⟨c,q1,q2⟩:=Zdz (zl23 d.zones).length z1 z3 (d.links.take 4) (d.links.take 4).length (by rw[List.length_take];omega)
  intro l hl
  refine ZkT (zl23 d.zones).length c (d.links.take 4).length l ?_
  rw[<- q2]
  exact hl
def Ziv (nz nl:Nat):List ByteArray:=Zgg.take nz++Zfl.take nl
theorem ZiB:∀ n,n<=3->(ZiC n).map (·.name)=Zgg.take n
 | 0,_=>rfl
 | n+1,h=>by
  rw[ZiC,List.map_append,ZiB n (by omega)]
  have hc:n=0\/n=1\/n=2:=by omega
  rcases hc with rfl|rfl|rfl <;> rfl
theorem Zja (nz:Nat)(c:Nat->Nat):∀ n,n<=4->(ZgQ nz c n).map (·.name)=Zfl.take n
 | 0,_=>rfl
 | n+1,h=>by
  rw[ZgQ,List.map_append,Zja nz c n (by omega)]
  have hc:n=0\/n=1\/n=2\/n=3:=by omega
  rcases hc with rfl|rfl|rfl|rfl <;> rfl
theorem Zs9:∀ nz:Fin 4,∀ nl:Fin 5,∀ a:Fin 3,∀ b:Fin 4,∀ c:Fin 5,∀ d:Fin 6,a.val<nz.val->b.val<nz.val+1->c.val<nz.val+2->d.val<nz.val+3->∀ x∈Ziv nz.val nl.val,
  (ZaW ⟨[],ZiC nz.val,ZgQ nz.val (ch4 a.val b.val c.val d.val) nl.val,[]⟩ (nl.val+1) [] x).2=0/\(ZaW ⟨[],ZiC nz.val,ZgQ nz.val (ch4 a.val b.val c.val d.val) nl.val,[]⟩ (nl.val+1) [] x).1<nz.val:=by decide +kernel
theorem Zpy (d:DD23):(Zai d).zones.map (·.name)=Zgg.take (zl23 d.zones).length/\(Zai d).links.map (·.name)=Zfl.take (d.links.take 4).length:=by
 obtain⟨z1,z3⟩:=ZdN d.zones
 have hl:(d.links.take 4).length<=4:=by rw[List.length_take];omega
 obtain⟨c,q1,q2⟩:=Zdz (zl23 d.zones).length z1 z3 (d.links.take 4) (d.links.take 4).length hl
 refine⟨?_,?_⟩
 ·have hb:=congrArg (List.map (·.name)) (ZcU d.ns (zl23 d.zones) _ z3)
  rw[List.map_map,ZiB _ z3]at hb
  exact hb
 ·show(ZbM _ _ _).map _=_
  rw[q2,Zja _ _ _ hl]
theorem Zpx (d:DD23)(x:ByteArray)(hx:x∈Ziv (zl23 d.zones).length (d.links.take 4).length) :
  (ZaW (Zai d) ((Zai d).links.length+1) [] x).2=0/\(ZaW (Zai d) ((Zai d).links.length+1) [] x).1<(Zai d).zones.length:=by
 obtain⟨z1,z3⟩:=ZdN d.zones
 have hl:(d.links.take 4).length<=4:=by rw[List.length_take];omega
 obtain⟨c,q1,q2⟩:=Zdz (zl23 d.zones).length z1 z3 (d.links.take 4) (d.links.take 4).length hl
 have hln:(Zai d).links.length=(d.links.take 4).length:=ZdA _ _ _
 have r0:=q1 0
 have r1:=q1 1
 have r2:=q1 2
 have r3:=q1 3
 have hf:=Zs9 ⟨_,by omega⟩ ⟨_,by omega⟩ ⟨c 0,by omega⟩ ⟨c 1,by omega⟩ ⟨c 2,by omega⟩ ⟨c 3,by omega⟩ (by dsimp only;omega) (by dsimp only;omega) (by dsimp only;omega) (by dsimp only;omega) x hx
 rw[<- Zfr,hln,Zi7]
 unfold Zf0
 rw[show(Zai d).zones.map Zko=ZiC _ from ZcU d.ns (zl23 d.zones) _ z3,show(Zai d).links=ZbM (zl23 d.zones).length (d.links.take 4) (d.links.take 4).length from rfl,q2,ZeA _ c (ch4 (c 0) (c 1) (c 2) (c 3)) _ fun i hi=>by
  have hc:i=0\/i=1\/i=2\/i=3:=by omega
  rcases hc with rfl|rfl|rfl|rfl <;> rfl]
 exact hf
structure ZAv where
 std:ByteArray
 stdOff:Int
 dst:ByteArray
 dstOff:Int
 start:Zzh
 fin:Zzh
deriving DecidableEq
def ZAv.enc (p:ZAv):List Value:=[.string p.std,.int .i64 p.stdOff,.string p.dst,.int .i64 p.dstOff,.int .i64 p.start.kind,.int .i64 p.start.day,.int .i64 p.start.month,.int .i64 p.start.week,.int .i64 p.start.sec,.int .i64 p.fin.kind,.int .i64 p.fin.day,.int .i64 p.fin.month,.int .i64 p.fin.week,.int .i64 p.fin.sec]
def Ztv (e:DEra)(save:Int)(letter:ByteArray):ByteArray:=⟨(ZbO e.format.data.toList e.off save letter.data.toList).1.toArray⟩
attribute [local irreducible] W RL Does Zar Zal retQ Calls Pu Stp RD Qy Ay Zak
theorem ZDl (Ar Az Al As:Option Addr)(cr cz cl cs:Nat)(a:Zac)(p:Zas)(e:Int)(w:World)(h:Zd5 w Ar Az Al As cr cz cl cs a)(hf:accD a=some (p,e)) :
  Does Tryz.prog 27 [srcV Ar Az Al As cr cz cl cs a] w (fun v O=>(∃ p1 p2 p3,v = .tuple #[.agg #[.int .i64 p1,.int .i64 p2,.int .i64 p3],.int .i64 e])/\O=[]):=by
 have:=Zmh Ar Az Al As cr cz cl cs a w h.L h.G h.A h.S h.V h.Z
 rw[hf]at this
 exact this.mono fun v O hv=>⟨⟨p.part,p.index,p.era,hv.1⟩,hv.2⟩
theorem ZDk (Ar Az Al As:Option Addr)(cr cz cl cs:Nat)(a:Zac)(w:World)(h:Zd5 w Ar Az Al As cr cz cl cs a)(hf:accD a=none) :
  Does Tryz.prog 27 [srcV Ar Az Al As cr cz cl cs a] w (fun v O=>v = .tuple #[.agg #[.int .i64 0,.int .i64 0,.int .i64 0],.int .i64 0]/\O=[]):=by
 have:=Zmh Ar Az Al As cr cz cl cs a w h.L h.G h.A h.S h.V h.Z
 rwa[hf]at this
def Zu1:List Value:=[fnV 307,fnV 308,fnV 309]
def MeG (w:World):Prop:=Zam w ⟨0,0,none⟩ Zu1
theorem MeG.up {w w':World}(h:MeG w)(hb:Bel w.heap.size w w'):MeG w':=Zam.up h hb (Nat.le_refl _)
def meFn (k:Int):FuncId:=if k=0 then 307 else if k=1 then 308 else 309
theorem ZDe {w:World}(hF:MeG w)(k:Int)(hk:0<=k/\k<=2):Zam w ((⟨0,0,none⟩:Addr).add (k.toNat*1)) [fnV (meFn k)]:=by
 have hc:k=0\/k=1\/k=2:=by omega
 intro j v hj
 have hj0:j=0:=by
  rcases j with _|j
  ·rfl
  ·cases j <;> cases hj
 subst hj0
 rcases hc with rfl|rfl|rfl
 ·exact hF 0 _ hj
 ·exact hF 1 _ hj
 ·exact hF 2 _ hj
def Zbj (rs:List Zab)(e:DEra)(t:Int):Int × ByteArray:=if e.kind=0 then (0,ByteArray.empty) else if e.kind=1 then (e.save,ByteArray.empty) else atS (ofB rs e.set) e.off t
theorem Zps (Ar Az Al As:Option Addr)(cr cz cl cs:Nat)(a:Zac)(e:DEra)(t:Int)(w:World)(hG:Glob w)(hA:Zan w Ar Az Al As cr cz cl cs a)(hn:a.rules.length<=1000000)(hk:0<=e.kind/\e.kind<=2)(hr:e.kind=2->RsSm (ofB a.rules e.set))(ho : -1000000000<=e.off/\e.off<=1000000000)(ht : -1000000000000000000<=t/\t<=1000000000000000000) :
  Does Tryz.prog (meFn e.kind) [srcV Ar Az Al As cr cz cl cs a,.agg e.enc.toArray,.int .i64 t] w (fun v O=>v=stV (Zbj a.rules e t)/\O=[]):=by
 have hof:=fun w' (hw:Bel w.heap.size w w')=>Zdf Ar Az Al As cr cz cl cs a e.set w' (hA.up hw) hn
 have hsa:=fun(A:Option Addr) (c:Nat) w' (hw:Bel w.heap.size w w') (hR:RdSl w' A c Zab.enc 11 (ofB a.rules e.set)) (h2:e.kind=2)=>Zuc A c (ofB a.rules e.set) e.off t w' (hG.up hw) hR (hr h2) ho ht
 unfold Zbj
 have hc:e.kind=0\/e.kind=1\/e.kind=2:=by omega
 generalize atS (ofB a.rules e.set) e.off t=x at *
 generalize ofB a.rules e.set=rr at *
 obtain⟨off,kd,esv,sset,fm,⟨ui,uy,um,⟨ud1,ud2,ud3⟩,⟨uc1,uc2⟩⟩⟩:=e
 obtain⟨xs,xl⟩:=x
 dsimp only at hc hof hsa ⊢
 unfold stV at hsa ⊢
 rcases hc with rfl|rfl|rfl
 ·show Does _ 307 [.agg #[.slice Ar a.rules.length cr,.slice Az a.zones.length cz,.slice Al a.links.length cl,.slice As a.shifts.length cs],.agg #[.int .i64 off,.int .i64 0,.int .i64 esv,.string sset,.string fm,.bool ui,.int .i64 uy,.int .i64 um,.int .i64 ud1,.int .i64 ud2,.int .i64 ud3,.int .i64 uc1,.int .i64 uc2],.int .i64 t] w _
  refine Zaa Tryz.func307 rfl rfl rfl rfl ?_
  repeat (first|(refine js ?_;(refine bx ?_;intro bk))|refine walk ?_)
  exact ret_1 _ [] (.cellB rfl (by repeat' constructor) rfl rfl) .nil ⟨rfl,rfl⟩
 ·show Does _ 308 [.agg #[.slice Ar a.rules.length cr,.slice Az a.zones.length cz,.slice Al a.links.length cl,.slice As a.shifts.length cs],.agg #[.int .i64 off,.int .i64 1,.int .i64 esv,.string sset,.string fm,.bool ui,.int .i64 uy,.int .i64 um,.int .i64 ud1,.int .i64 ud2,.int .i64 ud3,.int .i64 uc1,.int .i64 uc2],.int .i64 t] w _
  refine Zaa Tryz.func308 rfl rfl rfl rfl ?_
  repeat (first|(refine js ?_;(refine bx ?_;intro bk))|refine walk ?_)
  exact ret_1 _ [] (.cellB rfl (by repeat' constructor) rfl rfl) .nil ⟨rfl,rfl⟩
 ·show Does _ 309 [.agg #[.slice Ar a.rules.length cr,.slice Az a.zones.length cz,.slice Al a.links.length cl,.slice As a.shifts.length cs],.agg #[.int .i64 off,.int .i64 2,.int .i64 esv,.string sset,.string fm,.bool ui,.int .i64 uy,.int .i64 um,.int .i64 ud1,.int .i64 ud2,.int .i64 ud3,.int .i64 uc1,.int .i64 uc2],.int .i64 t] w _
  refine Zaa Tryz.func309 rfl rfl rfl rfl ?_
  repeat (first|refine walk ?_|(refine jg ?_;(try intro F);(first|(apply Zad (h:=fun w' hw _=>hof w' hw);rfl;rintro v O' ⟨A3,c3,rfl,rfl⟩)|(refine ZaX (fun w' hw hO=>hsa A3 c3 w' hw (Zbc Zab.len (hO.of (by repeat' constructor))) rfl) ?_)|(refine bx ?_;intro bk)|(refine stA ?_));refine fin ?_)|(refine jn ?_;(try intro F);(first|(refine bx ?_;intro bk)|(refine stA ?_)|(apply Zag;exact PuA));refine fin ?_)|(apply RD_W;rfl;intro bk))
  exact ret_1 _ [] (.cellB rfl (by repeat' constructor) rfl rfl) .nil ⟨rfl,rfl⟩
structure Zgf where
 off:Int
 dst:Bool
 abbr:ByteArray
deriving DecidableEq
def Zgf.enc (x:Zgf):List Value:=[.int .i64 x.off,.bool x.dst,.string x.abbr]
def ZgP (e:DEra)(x:Int × ByteArray):Zgf:=⟨e.off+x.1,!decide (x.1=0),Ztv e x.1 x.2⟩
def abE (e:DEra)(x:Int × ByteArray):Int:=(ZbO e.format.data.toList e.off x.1 x.2.data.toList).2
structure LcOk (rs:List Zab)(e:DEra):Prop where
 k:0<=e.kind/\e.kind<=2
 o : -1000000000<=e.off/\e.off<=1000000000
 s : -1000000000<=e.save/\e.save<=1000000000
 r:e.kind=2->RsSm (ofB rs e.set)
 f:e.format.size<=1000000000
theorem Zw4 {G:Prop}(h:G:=by(first|(apply Zbs;rfl;rfl;omega;omega)|(apply Pu_loadO1;rfl;exact hcell 0 _ rfl))):G:=h
theorem ZzU {G:Prop}(h:G:=by first|(apply Qy_y;rfl;exact Zw4)|exact QyA):G:=h
theorem Zz3 {G:Prop}(h:G:=by repeat (first|exact QF.nil|(apply QF.mk;rfl;rfl;decide +kernel;exact ZzU))):G:=h
theorem ZnA (Ar Az Al As:Option Addr)(cr cz cl cs:Nat)(a:Zac)(e:DEra)(t:Int)(w:World)(hL:LibW w)(hG:Glob w)(hM:MeG w)(hA:Zan w Ar Az Al As cr cz cl cs a)(hn:a.rules.length<=1000000)(he:LcOk a.rules e)(ht : -1000000000000000000<=t/\t<=1000000000000000000)
  (hx : -1000000000<=(Zbj a.rules e t).1/\(Zbj a.rules e t).1<=1000000000) (hxl:(Zbj a.rules e t).2.size<=1000000000) (hab:abE e (Zbj a.rules e t)=0) :
  Does Tryz.prog 42 [srcV Ar Az Al As cr cz cl cs a,.agg e.enc.toArray,.int .i64 t] w (fun v O=>v = .tuple #[.agg (ZgP e (Zbj a.rules e t)).enc.toArray,.int .i64 0]/\O=[]):=by
 have hst:=fun w' (hw:Bel w.heap.size w w')=>Zps Ar Az Al As cr cz cl cs a e t w' (hG.up hw) (hA.up hw) hn he.k he.r he.o ht
 have hcell:=ZDe hM e.kind he.k
 have hk:=he.k
 have ho:=he.o
 haveI:Body Tryz.prog (meFn e.kind):=by
  unfold meFn
  split
  ·infer_instance
  ·split <;> infer_instance
 generalize Zbj a.rules e t=x at *
 have hfa:=fun w' (hw:Bel w.heap.size w w')=>ZhC e.format x.2 e.off x.1 w' (hL.up hw) he.f hxl (by unfold I64;omega) (by unfold I64;omega)
 unfold abE at hab
 unfold xpV at hfa
 rw[hab]at hfa
 unfold ZgP
 change ∀ w',Bel w.heap.size w w'->Does _ _ _ w' (fun v O=>v = .tuple #[.string (Ztv e x.1 x.2),.int .i64 0]/\O=[]) at hfa
 generalize Ztv e x.1 x.2=ab at *
 obtain⟨xs,xl⟩:=x
 obtain⟨off,kd,esv,sset,fm,⟨ui,uy,um,⟨ud1,ud2,ud3⟩,⟨uc1,uc2⟩⟩⟩:=e
 dsimp only at hst hcell hk ho hx hfa ⊢
 unfold stV at hst
 simp only[Zgf.enc]
 show Does _ _ [.agg #[.slice Ar a.rules.length cr,.slice Az a.zones.length cz,.slice Al a.links.length cl,.slice As a.shifts.length cs],.agg #[.int .i64 off,.int .i64 kd,.int .i64 esv,.string sset,.string fm,.bool ui,.int .i64 uy,.int .i64 um,.int .i64 ud1,.int .i64 ud2,.int .i64 ud3,.int .i64 uc1,.int .i64 uc2],.int .i64 t] w _
 generalize meFn kd=kf at *
 refine Zaa Tryz.func42 rfl rfl rfl rfl ?_
 repeat (first|(apply RL_pu;rfl;exact Zw4)|(apply RD_Q;rfl;rfl;decide +kernel;rfl;rfl;exact ZzU)|refine walk1 ?_|(refine jg ?_;(try intro F);(first|(apply Zap (f:=kf) (us:=[]) (cs:=[]) (vs:=[.agg #[.slice Ar a.rules.length cr,.slice Az a.zones.length cz,.slice Al a.links.length cl,.slice As a.shifts.length cs],.agg #[.int .i64 off,.int .i64 kd,.int .i64 esv,.string sset,.string fm,.bool ui,.int .i64 uy,.int .i64 um,.int .i64 ud1,.int .i64 ud2,.int .i64 ud3,.int .i64 uc1,.int .i64 uc2],.int .i64 t]) (h:=fun w' hw _=>hst w' hw);rfl;rfl;rintro v O' ⟨rfl,rfl⟩)|(refine Zae hfa ?_)|(refine bx ?_;intro bk)|(refine stA ?_));first|refine⟨_,EndsA,Zz3,?_⟩|refine fin ?_)|(refine jn ?_;(try intro F);(first|(refine bx ?_;intro bk)|(refine stA ?_)|(apply Zag;first|exact Zw4|exact PuA));first|refine⟨_,EndsA,Zz3,?_⟩|refine fin ?_)|(apply RD_W;rfl;intro bk))
 exact rtC
end Go.Proofs.YtbjomhdhkpgbaaaGreatDoor
namespace Go.Proofs.YtbjomhdhkpgbaaaGreatDoor
open Go Go.RowKit Go.Wk
theorem ZB7 (rs:List Zab)(t:Int)(ht:t<9223372036854775807):∀ (l:List DEra) (st:Int) (i:Nat) (r:List Zb8),spGo rs l st i=some r->l≠[]->st<=t ->
  ∃ k x,k<l.length/\r[k]?=some x/\x.era=(i:Int)+(k:Nat)/\ZeZ t r i=(i:Int)+(k:Nat)/\x.start<=t/\t<x.fin
 | [],_,_,_,_,h,_=>absurd rfl h
 | [e],st,i,r,h,_,hs=>by
  simp only[spGo,Option.some.injEq]at h
  subst h
  refine⟨0,_,Nat.zero_lt_one,rfl,by simp,?_,hs,ht⟩
  rw[ZeZ,if_pos (by unfold spIn;rw[decide_eq_true hs,decide_eq_true ht];rfl)]
  simp
 | e::f::l,st,i,r,h,_,hs=>by
  rw[spGo]at h
  by_cases hT:endT e (ruEr rs e)<=st
  ·rw[if_pos hT]at h;cases h
  rw[if_neg hT]at h
  obtain⟨r2,h2,rfl⟩:=Option.map_eq_some_iff.1 h
  by_cases h3:t<endT e (ruEr rs e)
  ·refine⟨0,_,by simp,rfl,by simp,?_,hs,h3⟩
   rw[ZeZ,if_pos (by unfold spIn;rw[decide_eq_true hs,decide_eq_true h3];rfl)]
   simp
  ·obtain⟨k,x,a1,a2,a3,a4,a5,a6⟩:=ZB7 rs t ht (f::l) _ (i+1) r2 h2 (by simp) (Int.not_lt.1 h3)
   refine⟨k+1,x,by rw[List.length_cons];omega,a2,by omega,?_,a5,a6⟩
   rw[ZeZ,if_neg (by unfold spIn;dsimp only;rw[decide_eq_false h3,Bool.and_false];decide),a4]
   omega
theorem Zm0 (rs:List Zab):∀ (l:List DEra) (st:Int) (i:Nat),(∀ e,l[0]?=some e->1<l.length->st<endT e (ruEr rs e)) ->
  (∀ k e f,l[k]?=some e->l[k+1]?=some f->k+2<l.length->endT e (ruEr rs e)<endT f (ruEr rs f))->∃ r,spGo rs l st i=some r
 | [],_,_,_,_=>⟨_,rfl⟩
 | [e],_,_,_,_=>⟨_,rfl⟩
 | e::f::l,st,i,h1,h2=>by
  have h3:=h1 e rfl (by simp)
  obtain⟨r,hr⟩:=Zm0 rs (f::l) (endT e (ruEr rs e)) (i+1) (fun g hg hl=>by
   cases hg
   exact h2 0 e f rfl rfl (by simp only[List.length_cons]at hl ⊢;omega)) (fun k g u hg hu hl=>h2 (k+1) g u hg hu (by simp only[List.length_cons]at hl ⊢;omega))
  exact⟨_,by rw[spGo,if_neg (by omega),hr];rfl⟩
def ZfZ (rs:List Zab)(l:List DEra)(t:Int):Nat:=match Zm1 rs l with
 | some r=>(ZeZ t r 0).toNat
 | none=>0
theorem Zo4 {rs:List Zab}{l:List DEra}{r:List Zb8}(h:Zm1 rs l=some r)(hl:l≠[]){t:Int}(h0 : -9223372036854775808<=t)(h1:t<9223372036854775807) :
  ∃ x,ZfZ rs l t<l.length/\r[ZfZ rs l t]?=some x/\ZkB r t=(x,true)/\x.era=(ZfZ rs l t:Nat)/\x.start<=t/\t<x.fin:=by
 obtain⟨k,x,a1,a2,a3,a4,a5,a6⟩:=ZB7 rs t h1 l _ 0 r h hl h0
 have hk:ZfZ rs l t=k:=by
  unfold ZfZ
  rw[h]
  dsimp only
  rw[a4]
  simp
 refine⟨x,by rw[hk];exact a1,by rw[hk];exact a2,?_,by rw[hk,a3];simp,a5,a6⟩
 unfold ZkB
 rw[a4,if_neg (by omega),List.getD_eq_getElem?_getD,show(((0:Nat):Int)+(k:Nat)).toNat=k by omega,a2]
 rfl
def ZpA (rs:List Zab)(l:List DEra)(t:Int):Zgf:=ZgP (l.getD (ZfZ rs l t) dE0) (Zbj rs (l.getD (ZfZ rs l t) dE0) t)
section
variable {P:Int × ByteArray->Prop}{l:List Zab}
theorem ZrQ (h0:P (0,ByteArray.empty))(hr:∀ r∈l,P (r.save,r.letter))(e:Zaf):P (behS l e):=by
 unfold behS ruE
 rw[List.getD_eq_getElem?_getD]
 cases hx:l[e.rule.toNat]? with
 | none=>exact h0
 | some r=>exact hr r (List.mem_of_getElem? hx)
theorem Zzz (h0:P (0,ByteArray.empty))(hr:∀ r∈l,P (r.save,r.letter)):P (iniS l):=by
 unfold iniS
 cases fstD l true 0 with
 | none=>exact h0
 | some e =>
  dsimp only
  cases fstD l false (ruE l e).save with
  | none=>exact ZrQ h0 hr e
  | some o=>exact ZrQ h0 hr o
theorem ZzJ (h0:P (0,ByteArray.empty))(hr:∀ r∈l,P (r.save,r.letter))(n:Int):P (befS l n):=by
 unfold befS
 cases befD l n with
 | none=>exact Zzz h0 hr
 | some e=>exact ZrQ h0 hr e
theorem ZzK (h0:P (0,ByteArray.empty))(hr:∀ r∈l,P (r.save,r.letter))(off t:Int):∀ (k:Nat) (n:Int),P (atGo l off t k n)
 | 0,n=>ZzJ h0 hr n
 | k+1,n=>by
  rw[atGo]
  cases befD l n with
  | none=>exact Zzz h0 hr
  | some e =>
   dsimp only
   split
   ·exact ZrQ h0 hr e
   ·exact ZzK h0 hr off t k _
end
theorem ZxP {P:Int × ByteArray->Prop}{rs:List Zab}{e:DEra}(h0:P (0,ByteArray.empty))(h1:e.kind=1->P (e.save,ByteArray.empty))(hr:e.kind≠0->e.kind≠1->∀ r∈ofB rs e.set,P (r.save,r.letter))(t:Int):P (Zbj rs e t):=by
 unfold Zbj
 split
 ·exact h0
 ·split
  ·exact h1 ‹_›
  ·exact ZzK h0 (hr ‹_› ‹_›) _ _ _ _
def DrSt (e:DEra)(x:Int × ByteArray):Prop:=(-54000<=e.off+x.1/\e.off+x.1<=54000)/\(-10800<=x.1/\x.1<=10800)/\x.2∈[ByteArray.empty,⟨#[83]⟩,⟨#[68]⟩,⟨#[68,84]⟩]
theorem Zb1.st0 {rs:List Zab}{e:DEra}{b:Bool}(h:Zb1 rs e b):DrSt e (0,ByteArray.empty):=by
 refine⟨?_,by decide,.head _⟩
 rcases h with⟨_,_,_,h1,h2,_⟩|⟨_,_,_,h1,h2,_⟩|⟨_,_,_,h1,h2,_⟩ <;> dsimp only <;> omega
theorem Zb1.st1 {rs:List Zab}{e:DEra}{b:Bool}(h:Zb1 rs e b)(hk:e.kind=1):DrSt e (e.save,ByteArray.empty):=by
 rcases h with⟨h0,_⟩|⟨_,⟨h3,h4⟩,_,h1,h2,_⟩|⟨h0,_⟩
 ·omega
 ·exact⟨by dsimp only;omega,by dsimp only;omega,.head _⟩
 ·omega
theorem Zb1.st2 {rs:List Zab}{e:DEra}{b:Bool}(h:Zb1 rs e b)(hk0:e.kind≠0)(hk1:e.kind≠1):∀ r∈ofB rs e.set,DrSt e (r.save,r.letter):=fun r hr=>by
 rcases h with⟨h0,_⟩|⟨h0,_⟩|⟨_,_,_,h1,h2,_,h3,_⟩
 ·exact absurd h0 hk0
 ·exact absurd h0 hk1
 ·have hd:=h3.rule r hr
  have hs:=hd.save
  exact⟨by dsimp only;omega,by dsimp only;omega,hd.letter⟩
theorem Zb1.state {rs:List Zab}{e:DEra}{b:Bool}(h:Zb1 rs e b)(t:Int):DrSt e (Zbj rs e t):=ZxP h.st0 h.st1 h.st2 t
theorem Zb1.befS {rs:List Zab}{e:DEra}{b:Bool}(h:Zb1 rs e b)(hk:e.kind=2)(n:Int):DrSt e (Go.Wk.befS (ofB rs e.set) n):=ZzJ h.st0 (h.st2 (by omega) (by omega)) n
def pOk (f:List UInt8):Option (List UInt8 × List UInt8)->Bool
 | some (a,b)=>decide (a≠[])&&decide (b≠[])
 | none=>decide (ZaP f=1)&&decide (f≠[])
theorem Zs7:∀ f∈Zvz,pOk f (Zbk f)=true:=by decide +kernel
theorem Zs6:∀ f∈Zvy,∀ x∈ZnD,(ZbO f 0 0 x).2=0/\(ZbO f 0 0 x).1≠[]:=by decide +kernel
theorem ZBy {e:DEra}(hf:e.format∈fmtU){x:Int × ByteArray}(hx:DrSt e x):abE e x=0/\Ztv e x.1 x.2≠ByteArray.empty:=by
 obtain⟨⟨h1,h2⟩,_,h3⟩:=hx
 have key:(ZbO e.format.data.toList e.off x.1 x.2.data.toList).2=0/\(ZbO e.format.data.toList e.off x.1 x.2.data.toList).1≠[]:=by
  rcases Zjl hf with h|h|h
  ·have:=Zs7 _ h
   unfold ZbO
   cases hp:Zbk e.format.data.toList with
   | none =>
    rw[hp]at this
    simp only[pOk,Bool.and_eq_true,decide_eq_true_eq]at this
    dsimp only
    rw[this.1,if_neg (by decide),if_neg (by decide),if_pos (.inl rfl)]
    exact⟨rfl,this.2⟩
   | some ab =>
    obtain⟨a,b⟩:=ab
    rw[hp]at this
    simp only[pOk,Bool.and_eq_true,decide_eq_true_eq]at this
    dsimp only
    refine⟨rfl,?_⟩
    split
    ·exact this.1
    ·exact this.2
  ·have h4:=Zs6 _ h _ (Zre h3)
   have h5:=ZdE.1 _ h
   have h6:=(Zc1.2.1 _ h).1
   unfold ZbO at h4 ⊢
   rw[h5]at h4 ⊢
   dsimp only at h4 ⊢
   rw[if_pos h6]at h4 ⊢
   exact h4
  ·rw[h]
   unfold ZbO
   rw[ZdE.2]
   dsimp only
   have ht:=ZgC (e.off+x.1) (by omega)
   rw[Zc1.2.2,if_neg (by decide),if_pos rfl,if_pos ⟨by unfold ZdD;simp;omega,ht⟩]
   exact⟨rfl,ht⟩
 refine⟨key.1,fun h=>key.2 ?_⟩
 unfold Ztv at h
 have:=congrArg (fun b=>b.data.toList) h
 simpa using this
theorem ZAH {u:ZaZ}{least n:Int}(h:ZaF u least=(n,0))(hc:ZaI u least=0)(hl : -3600<=least/\least<=0):n<=86400*(onD u.year u.month u.day).1+u.at_.sec/\86400*(onD u.year u.month u.day).1+u.at_.sec<=n+3600:=by
 unfold ZaF at h
 rw[if_neg (by rw[hc];decide)]at h
 have h1:86400*(onD u.year u.month u.day).1+u.at_.sec+(if u.at_.base=1 then least else 0)=n:=congrArg Prod.fst h
 split at h1 <;> omega
theorem Zb1.rs {rs:List Zab}{e:DEra}{b:Bool}(h:Zb1 rs e b):RsSm (ruEr rs e):=by
 have hd:∀ r∈ruEr rs e,DrRule r/\(ruEr rs e).length<=5:=by
  rcases h with⟨h0,_⟩|⟨h0,_⟩|⟨h0,_,_,h1,h2,_,h3,h4⟩
  ·unfold ruEr;rw[if_neg (by omega)];exact fun r hr=>by cases hr
  ·unfold ruEr;rw[if_neg (by omega)];exact fun r hr=>by cases hr
  ·unfold ruEr;rw[if_pos h0];exact fun r hr=>⟨h3.rule r hr,h4⟩
 refine⟨?_,fun r hr=>?_,fun r hr=>?_,fun r hr=>?_⟩
 ·cases hl:ruEr rs e with
  | nil=>decide
  | cons r l=>have:=(hd r (by rw[hl];exact List.mem_cons_self)).2;rw[hl]at this;omega
 ·have:=(hd r hr).1.save;omega
 ·have:=(hd r hr).1.f1;omega
 ·have:=(hd r hr).1.ft;have:=(hd r hr).1.f0;omega
theorem ZgR {n:Int}(h : -604799<=n/\n<=604799):ZlW n=true:=by unfold ZlW;simp;exact h
theorem Zb1.bs {rs:List Zab}{e:DEra}{b:Bool}(h:Zb1 rs e b) : -3600<=Go.Wk.bsE e (ruEr rs e)/\Go.Wk.bsE e (ruEr rs e)<=0:=by
 have:=h.least
 unfold Zaz at this
 unfold Go.Wk.bsE ruEr
 split
 ·rw[if_pos ‹_›]at this
  omega
 ·decide
theorem Zb1.bf {rs:List Zab}{e:DEra}{b:Bool}(h:Zb1 rs e b)(n:Int) : -10800<=bfE e (ruEr rs e) n/\bfE e (ruEr rs e) n<=10800:=by
 unfold bfE
 split
 ·have:=(h.st1 ‹_›).2.1
  exact this
 ·split
  ·unfold ruEr
   rw[if_pos ‹_›]
   exact(h.befS ‹_› n).2.1
  ·decide
theorem Zb1.un {rs:List Zab}{e:DEra}{b:Bool}(h:Zb1 rs e b){Y:Int}(hT:ZxA e.til Y)(hY:1850<=Y/\Y<=2148) :
  UnOk e (ruEr rs e)/\86400*(mar1 Y+279) - 70000<=endT e (ruEr rs e)/\endT e (ruEr rs e)<=86400*(mar1 Y+327)+70000:=by
 obtain⟨t1,t2,n,t3,t4,t5⟩:=hT.nom hY h.bs
 have h0:=h.st0.1
 have hb:=h.bf (ZaF e.til (Go.Wk.bsE e (ruEr rs e))).1
 have hsc:=ZAH t3 t2 h.bs
 dsimp only at h0
 have hk:0<=e.kind/\e.kind<=2:=by rcases h with⟨h0,_⟩|⟨h0,_⟩|⟨h0,_⟩ <;> omega
 have hs : -10800<=e.save/\e.save<=10800:=by
  rcases h with⟨_,h0,_⟩|⟨_,h0,_⟩|⟨_,_,h0,_⟩ <;> omega
 refine⟨⟨hk,ZgR (by omega),ZgR (by omega),t2,ZgR (by unfold endB;omega)⟩,?_⟩
 unfold endT
 unfold endB
 split
 ·omega
 ·split <;> omega
theorem ZcB.un {rs:List Zab}{l:List DEra}{Y:Nat->Int}(h:ZcB rs l Y)(k:Nat)(e:DEra)(he:l[k]?=some e)(hk:k+1<l.length):RsSm (ruEr rs e)/\UnOk e (ruEr rs e):=by
 have hT:=h.til k e he
 rw[if_pos hk]at hT
 exact⟨(h.era k e he).rs,((h.era k e he).un hT (h.yr k hk)).1⟩
theorem ZcB.sp {rs:List Zab}{l:List DEra}{Y:Nat->Int}(h:ZcB rs l Y):∃ r,Zm1 rs l=some r:=by
 refine Zm0 rs l _ 0 (fun e he hl=>?_) (fun k e f he hf hl=>?_)
 ·have hT:=h.til 0 e he
  rw[if_pos hl]at hT
  have hy:=h.yr 0 hl
  obtain⟨_,h1,_⟩:=(h.era 0 e he).un hT hy
  have hm:mar1 1850<=mar1 (Y 0):=Zu3 hy.1
  have h5 : -50000<=mar1 1850:=by decide
  omega
 ·have hT:=h.til k e he
  rw[if_pos (by omega)]at hT
  have hT2:=h.til (k+1) f hf
  rw[if_pos (by omega)]at hT2
  obtain⟨_,_,h1⟩:=(h.era k e he).un hT (h.yr k (by omega))
  obtain⟨_,h2,_⟩:=(h.era (k+1) f hf).un hT2 (h.yr (k+1) (by omega))
  have:=Zhy (h.inc k (by omega))
  omega
theorem ZhK (least nominal:Int)(r:Zab)(i:Int):∀ (k:Nat) (y:Int) (e:Zaf),beIn least nominal r i y k=some e->∃ y',onR least r i y'=some e/\e.nominal<nominal
 | 0,_,_,h=>by cases h
 | k+1,y,e,h=>by
  rw[beIn]at h
  cases he:onR least r i y with
  | none=>rw[he]at h;exact ZhK least nominal r i k (y - 1) e h
  | some e' =>
   rw[he]at h
   dsimp only at h
   by_cases hc:e'.nominal<nominal
   ·rw[if_pos hc]at h
    cases h
    exact⟨y,he,hc⟩
   ·rw[if_neg hc]at h
    exact ZhK least nominal r i k (y - 1) e h
theorem ZjX (least nominal yr:Int):∀ (l:List Zab) (i:Nat) (b:Option Zaf) (e:Zaf),Ze0 least nominal yr l i b=some e->b=some e\/∃ (j:Nat) (r:Zab),l[j]?=some r/\beIn least nominal r ((i+j:Nat):Int) (min (lastY r) (yr+2)) 20=some e
 | [],_,_,_,h => .inl h
 | r::l,i,b,e,h=>by
  rw[Ze0]at h
  rcases ZjX least nominal yr l (i+1) _ e h with h1|⟨j,r',h1,h2⟩
  ·cases he:beIn least nominal r i (min (lastY r) (yr+2)) 20 with
   | none=>rw[he]at h1;exact .inl h1
   | some e' =>
    rw[he]at h1
    have hr:∀ x,e'=x->∃ (j:Nat) (r':Zab),(r::l)[j]?=some r'/\beIn least nominal r' ((i+j:Nat):Int) (min (lastY r') (yr+2)) 20=some x:=fun x hx=>⟨0,r,rfl,by rw[<- hx];exact he⟩
    cases b with
    | none=>cases h1;exact .inr (hr _ rfl)
    | some b =>
     dsimp only at h1
     split at h1
     ·cases h1;exact .inr (hr _ rfl)
     ·exact .inl h1
  ·exact .inr ⟨j+1,r',by simpa using h1,by rw[show i+(j+1)=i+1+j by omega];exact h2⟩
def EvOf (l:List Zab)(e:Zaf):Prop:=∃ (j:Nat) (r:Zab) (y:Int),l[j]?=some r/\onR (Zaj l) r (j:Int) y=some e
theorem _root_.Go.Wk.DrRule.lastYr {r:Zab}(h:DrRule r):r.from_<=Go.Wk.lastY r/\Go.Wk.lastY r<=2000000000:=by
 have h0:=h.f0
 have h1:=h.f1
 have h2:=h.ft
 unfold Go.Wk.lastY
 split <;> omega
theorem _root_.Go.Wk.DrRule.onY {r:Zab}(h:DrRule r)(least i:Int){y:Int}(h0:r.from_<=y)(h1:y<=Go.Wk.lastY r):∃ e,onR least r i y=some e:=by
 have hf0:=h.f0
 have hl:=h.lastYr
 have hck:ZaQ r.at_=true:=by
  have:=h.clk
  unfold ZaQ
  simp
  omega
 have hin:inY y=true:=by
  unfold inY
  simp
  omega
 obtain⟨m0,m1⟩:=h.mon12
 have ho:=(h.day.on hin m0 m1).1
 unfold onR
 rw[if_neg (by rw[hck];rintro(q|q|q);omega;omega;cases q),if_neg (by rw[ho];decide)]
 exact⟨_,rfl⟩
section
variable {l:List Zab}(h:ZcL l)
include h
omit h in
theorem Zmg {n:Int}{e:Zaf}(he:befD l n=some e):EvOf l e/\e.nominal<n:=by
 rcases ZjX _ _ _ l 0 none e he with h1|⟨j,r,h1,h2⟩
 ·cases h1
 ·obtain⟨y,h3,h4⟩:=ZhK _ _ _ _ _ _ _ h2
  rw[Nat.zero_add]at h3
  exact⟨⟨j,r,y,h1,h3⟩,h4⟩
end
section
variable {l:List Zab}(h:ZcL l){off t:Int}(ho : -43200<=off/\off<=43200)
include h
end
end Go.Proofs.YtbjomhdhkpgbaaaGreatDoor
