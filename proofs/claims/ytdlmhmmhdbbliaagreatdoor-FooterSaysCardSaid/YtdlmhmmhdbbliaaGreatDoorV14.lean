/- Parts of the proof. -/
import Derived.Test.YtdlmhmmhdbbliaaGreatDoorV13
import Derived.Test.YtdlmhmmhdbbliaaGreatDoorV12
import Derived.Test.YtdlmhmmhdbbliaaGreatDoorV09
import Derived.Test.YtdlmhmmhdbbliaaGreatDoorV07
set_option maxHeartbeats 4000000
set_option linter.unusedVariables false
set_option linter.unusedSimpArgs false
namespace Go.Wk
open Go Go.RowKit
theorem ZzX {P:Program}{n:Nat}{wr:World}{fr:Fr}{O:List It}{ty:TypeId}{x y:Operand}{ts:Array TypeId}{k:IntKind}{i j:Int}(hx:ev fr x=some (.int k i))(hy:ev fr y=some (.int k j)):Pu P n wr fr O (.call ⟨.builtin .max,#[x,y],ts⟩) ty (.int k (if i<j then j else i)) :=
 fun a w hs _ _ _ _=>by simp[execOp,resolve,invoke,builtin,Builtin.max_,Builtin.max2,hs.sim.ev hx,hs.sim.ev hy]
theorem RdSl.take {α:Type}{w:World}{A:Option Addr}{c:Nat}{enc:α->List Value}{sz:Nat}{xs:List α}(h:RdSl w A c enc sz xs)(k:Nat):RdSl w A c enc sz (xs.take k) :=
 ⟨by rw[List.length_take];exact Nat.le_trans (Nat.min_le_right _ _) h.le,h.cap,fun j x hj=>h.rd j x (by
  rw[List.getElem?_take]at hj
  split at hj
  ·exact hj
  ·cases hj)⟩
theorem E23.len (x:E23):x.enc.length=8:=rfl
end Go.Wk
namespace Go.Proofs.YtdlmhmmhdbbliaaGreatDoor
open Go Go.RowKit Go.Wk
structure DD23 where
 sets:List (List Int)
 zones:List (List E23)
 links:List Int
structure RdLL {α:Type}(w:World)(A:Option Addr)(c:Nat)(enc:α->List Value)(sz:Nat)(ll:List (List α)):Prop where
 le:ll.length<=c
 cap:c<=maxLen
 rd:∀ k l,ll[k]?=some l->A≠none/\∃ B cb,RdSl w B cb enc sz l/\Zal w ((adr A).add (k*1)) [.slice B l.length cb]
theorem RdLL.up {α:Type}{w w':World}{A:Option Addr}{c:Nat}{enc:α->List Value}{sz:Nat}{ll:List (List α)}(h:RdLL w A c enc sz ll)(hb:Bel w.heap.size w w'):RdLL w' A c enc sz ll :=
 ⟨h.le,h.cap,fun k l hk=>by
  obtain⟨h1,B,cb,h2,h3⟩:=h.rd k l hk
  exact⟨h1,B,cb,h2.up hb,h3.up hb (Nat.le_refl _)⟩⟩
theorem RdLL.take {α:Type}{w:World}{A:Option Addr}{c:Nat}{enc:α->List Value}{sz:Nat}{ll:List (List α)}(h:RdLL w A c enc sz ll)(k:Nat):RdLL w A c enc sz (ll.take k) :=
 ⟨by rw[List.length_take];exact Nat.le_trans (Nat.min_le_right _ _) h.le,h.cap,fun j x hj=>h.rd j x (by
  rw[List.getElem?_take]at hj
  split at hj
  ·exact hj
  ·cases hj)⟩
def d23V (As Az Al:Option Addr)(cs cz cl:Nat)(d:DD23):Value := .agg #[.slice As d.sets.length cs,.slice Az d.zones.length cz,.slice Al d.links.length cl]
def e23Z:E23:=⟨0,0,0,0,0,0,0,0⟩
def sZ:ByteArray:=⟨#[65,114,101,97,47,90]⟩
def sL:ByteArray:=⟨#[79,108,100,47,76]⟩
def DD23.ns (d:DD23):Nat:=max 1 (min d.sets.length 3)
def ZaV (sets:List (List Int)):Nat->List Zab
 | 0=>[]
 | k+1=>ZaV sets k++Zca (sets.getD k []) (sR++dig k)
def zl23 (zones:List (List E23)):List (List E23):=if zones.length=0 then [[]] else zones.take 3
def el23 (l:List E23):List E23:=if l.length=0 then [e23Z] else l.take 4
def ZaO (sets:Int)(l:List E23):Nat->List DEra × Int
 | 0=>([],1904)
 | k+1=>((ZaO sets l k).1++[Zlk (l.getD k e23Z) (decide ((k:Int)=0)) sets ((ZaO sets l k).2+(1+(l.getD k e23Z).years % 30)) (decide ((k:Int)<(l.length:Int) - 1))],(ZaO sets l k).2+(1+(l.getD k e23Z).years % 30))
def Zpz (sets:Int)(i:Nat)(l:List E23):Za5:=⟨sZ++dig i,(ZaO sets (el23 l) (el23 l).length).1⟩
def Zbz (sets:Int)(zs:List (List E23)):Nat->List Za5
 | 0=>[]
 | i+1=>Zbz sets zs i++[Zpz sets i (zs.getD i [])]
def ZhI (nz:Nat)(n:Int)(i:Nat):Zcj:=⟨if n % ((nz:Int)+i) >= nz then sL++dig (n % ((nz:Int)+i) - nz) else sZ++dig (n % (nz:Int)),sL++dig i⟩
def ZbE (nz:Nat)(links:List Int):Nat->List Zcj
 | 0=>[]
 | i+1=>ZbE nz links i++[ZhI nz (links.getD i 0) i]
def ZbD (d:DD23):Zai:=⟨ZaV d.sets d.ns,Zbz d.ns (zl23 d.zones) (zl23 d.zones).length,ZbE (zl23 d.zones).length (d.links.take 4) (d.links.take 4).length,[]⟩
theorem Zkh (l:List Int)(x:ByteArray):(Zca l x).length<=5:=by
 obtain⟨q1,q2,q3⟩:=ZmC l
 obtain⟨q4,q5,q6⟩:=Zp5 l (m1 l).1 (m1 l).2 q1 q2 q3
 rw[Zca,List.length_map,m3,List.length_append,Zdb]
 omega
theorem Zda (sets:List (List Int)):∀ k,(ZaV sets k).length<=5*k
 | 0=>Nat.le_refl _
 | k+1=>by
  have:=Zda sets k
  have h2:=Zkh (sets.getD k []) (sR++dig k)
  rw[ZaV,List.length_append]
  omega
theorem Ze7 (zs:List (List E23)):1<=(zl23 zs).length/\(zl23 zs).length<=3:=by
 unfold zl23
 split
 ·simp
 ·rw[List.length_take];omega
theorem Zqg (l:List E23):1<=(el23 l).length/\(el23 l).length<=4:=by
 unfold el23
 split
 ·simp
 ·rw[List.length_take];omega
theorem Zfk (sets:Int)(l:List E23):∀ k,(ZaO sets l k).1.length=k
 | 0=>rfl
 | k+1=>by simp[ZaO,Zfk sets l k]
theorem Zi5 (sets:Int)(l:List E23)(hl:∀ e∈l,e.ok):∀ k:Nat,1904<=(ZaO sets l k).2/\(ZaO sets l k).2<=1904+30*k
 | 0=>by simp[ZaO]
 | k+1=>by
  obtain⟨h1,h2⟩:=Zi5 sets l hl k
  have h3:=Int.emod_nonneg (l.getD k e23Z).years (b:=30) (by decide)
  have h4:=Int.emod_lt_of_pos (l.getD k e23Z).years (b:=30) (by decide)
  simp only[ZaO]
  omega
theorem Zc2 (sets:Int)(zs:List (List E23)):∀ k,(Zbz sets zs k).length=k
 | 0=>rfl
 | k+1=>by simp[Zbz,Zc2 sets zs k]
theorem Zeb (nz:Nat)(links:List Int):∀ k,(ZbE nz links k).length=k
 | 0=>rfl
 | k+1=>by simp[ZbE,Zeb nz links k]
def sN (j:Nat):ByteArray:=sR++dig (j:Int)
theorem ZBk:∀ i j:Fin 3,i≠j->sN i.val≠sN j.val:=by decide +kernel
theorem ZBj:∀ i:Fin 3,setB (sN i.val)=true:=by decide +kernel
theorem Zd6 (sets:List (List Int)):∀ m,∀ r∈ZaV sets m,∃ j,j<m/\r.name=sN j
 | 0,r,h=>by cases h
 | m+1,r,h=>by
  rw[ZaV,List.mem_append]at h
  rcases h with h|h
  ·obtain⟨j,h1,h2⟩:=Zd6 sets m r h
   exact⟨j,by omega,h2⟩
  ·exact⟨m,by omega,ZeP _ _ r h⟩
theorem Zj2 (sets:List (List Int)):∀ m,m<=3->∀ j,j<3->ofB (ZaV sets m) (sN j)=if j<m then Zca (sets.getD j []) (sN j) else []
 | 0,_,j,_=>rfl
 | m+1,hm,j,hj=>by
  rw[ZaV,Zy8,Zj2 sets m (by omega) j hj]
  by_cases h:j=m
  ·subst h
   rw[if_neg (by omega),if_pos (by omega),List.nil_append]
   exact Zy9 (ZeP _ _)
  ·have hno:ofB (Zca (sets.getD m []) (sR++dig (m:Int))) (sN j)=[]:=ZAn (y:=sN m) (ZeP _ _) (ZBk ⟨m,by omega⟩ ⟨j,hj⟩ fun e=>h (Fin.mk.inj e).symm)
   rw[hno,List.append_nil]
   by_cases h2:j<m
   ·rw[if_pos h2,if_pos (by omega)]
   ·rw[if_neg h2,if_neg (by omega)]
theorem ZfV (sets:List (List Int))(m:Nat)(hm:m<=3)(j:Nat)(hj:j<m):Zbl (ofB (ZaV sets m) (sN j))/\(ofB (ZaV sets m) (sN j)).length<=5:=by
 rw[Zj2 sets m hm j (by omega),if_pos hj]
 exact⟨Zrl _ _,Zrm _ _⟩
theorem Zl9 (sets:List (List Int))(m:Nat)(hm:m<=3):ZdI (ZaV sets m) (Zb8 (ZaV sets m) [])=none:=by
 refine ZhA _ fun x hx=>?_
 rcases ZfZ _ _ x hx with h|⟨r,h1,h2⟩
 ·cases h
 ·obtain⟨j,h3,h4⟩:=Zd6 sets m r h1
  rw[<- h2,h4]
  exact(ZfV sets m hm j h3).1.fault (ZBj ⟨j,by omega⟩)
theorem ZtO (n:Int):Zhc n∈fmtU:=by
 have h0:=Int.emod_nonneg n (b:=6) (by decide)
 have h1:=Int.emod_lt_of_pos n (b:=6) (by decide)
 unfold Zhc
 generalize n % 6=x at *
 have hc:x=0\/x=1\/x=2\/x=3\/x=4\/x=5:=by omega
 rcases hc with rfl|rfl|rfl|rfl|rfl|rfl
 ·exact .head _
 ·exact .tail _ (.head _)
 ·exact .tail _ (.tail _ (.tail _ (.tail _ (.tail _ (.tail _ (.head _))))))
 ·exact .tail _ (.tail _ (.tail _ (.head _)))
 ·exact .tail _ (.tail _ (.tail _ (.tail _ (.head _))))
 ·exact .tail _ (.tail _ (.tail _ (.tail _ (.tail _ (.tail _ (.tail _ (.head _)))))))
theorem ZwZ (rs:List Zab)(ns:Nat)(hns:1<=ns)(e:E23)(k:Nat)(year:Int)(fin_:Bool)(hs:∀ j,j<ns->Zbl (ofB rs (sN j))/\(ofB rs (sN j)).length<=5) :
  Zbm rs (Zlk e (decide ((k:Int)=0)) ns year fin_) (decide (k=0)):=by
 have o:=ZhW e.off 48 (by decide)
 have hf:=ZtO e.format
 have hk0:=Int.emod_nonneg e.kind (b:=3) (by decide)
 have hk1:=Int.emod_lt_of_pos e.kind (b:=3) (by decide)
 have hs0:=Int.emod_nonneg e.set (b:=4) (by decide)
 have hs1:=Int.emod_lt_of_pos e.set (b:=4) (by decide)
 have ht0:=Int.emod_nonneg e.set (b:=(ns:Int)) (by omega)
 have ht1:=Int.emod_lt_of_pos e.set (b:=(ns:Int)) (by omega)
 have hkd:ZdS e (decide ((k:Int)=0))=0\/ZdS e (decide ((k:Int)=0))=1\/(ZdS e (decide ((k:Int)=0))=2/\k≠0):=by
  unfold ZdS
  split
  ·exact .inl rfl
  ·rename_i hh
   have hc:e.kind % 3=0\/e.kind % 3=1\/e.kind % 3=2:=by omega
   rcases hc with hc|hc|hc
   ·exact .inl hc
   ·exact .inr (.inl hc)
   ·refine .inr (.inr ⟨hc,fun hk=>hh ⟨?_,hc⟩⟩)
    subst hk
    rfl
 unfold Zbm Zlk
 dsimp only
 rcases hkd with h|h|⟨h,hk⟩
 ·refine .inl ⟨h,?_,?_,by omega,by omega,hf⟩
  ·unfold Zgf;rw[if_neg (by omega)]
  ·unfold Ziq;rw[if_neg (by omega)]
 ·refine .inr (.inl ⟨h,?_,?_,by omega,by omega,hf⟩)
  ·unfold Zgf;rw[if_pos h];omega
  ·unfold Ziq;rw[if_neg (by omega)]
 ·have he:Ziq e (decide ((k:Int)=0)) ns=sN (e.set % (ns:Int)).toNat:=by
   unfold Ziq sN
   rw[if_pos h,Int.toNat_of_nonneg ht0]
  obtain⟨h1,h2⟩:=hs (e.set % (ns:Int)).toNat (by omega)
  refine .inr (.inr ⟨h,decide_eq_false hk,?_,by omega,by omega,hf,?_,?_⟩)
  ·unfold Zgf;rw[if_neg (by omega)]
  ·rw[he];exact h1
  ·rw[he];exact h2
theorem Zhg (ns:Int)(l:List E23):∀ (c k:Nat) (e:DEra),(ZaO ns l c).1[k]?=some e->k<c/\e=Zlk (l.getD k e23Z) (decide ((k:Int)=0)) ns (ZaO ns l (k+1)).2 (decide ((k:Int)<(l.length:Int) - 1))
 | 0,k,e,h=>by simp[ZaO]at h
 | c+1,k,e,h=>by
  have hl:=Zfk ns l c
  simp only[ZaO]at h
  rcases Nat.lt_trichotomy k c with hk|hk|hk
  ·rw[List.getElem?_append_left (by omega)]at h
   obtain⟨h1,h2⟩:=Zhg ns l c k e h
   exact⟨by omega,h2⟩
  ·rw[List.getElem?_append_right (by omega),hl,hk,Nat.sub_self]at h
   simp only[List.getElem?_cons_zero,Option.some.injEq]at h
   subst h hk
   exact⟨by omega,rfl⟩
  ·rw[List.getElem?_eq_none (by simp;omega)]at h
   cases h
theorem Zi4 (ns:Int)(l:List E23):∀ k:Nat,1904+k<=(ZaO ns l k).2/\(ZaO ns l k).2<=1904+30*k/\(ZaO ns l k).2<(ZaO ns l (k+1)).2
 | 0=>by
  have h3:=Int.emod_nonneg (l.getD 0 e23Z).years (b:=30) (by decide)
  simp only[ZaO]
  omega
 | k+1=>by
  obtain⟨h1,h2,_⟩:=Zi4 ns l k
  have h3:=Int.emod_nonneg (l.getD k e23Z).years (b:=30) (by decide)
  have h4:=Int.emod_lt_of_pos (l.getD k e23Z).years (b:=30) (by decide)
  have h5:=Int.emod_nonneg (l.getD (k+1) e23Z).years (b:=30) (by decide)
  simp only[ZaO]at h1 h2 ⊢
  omega
theorem Zsd (rs:List Zab)(ns:Nat)(hns:1<=ns)(i:Nat)(l:List E23)(hs:∀ j,j<ns->Zbl (ofB rs (sN j))/\(ofB rs (sN j)).length<=5):∃ Y,Zbo rs (Zpz ns i l).eras Y:=by
 have hl:=Zqg l
 show ∃ Y,Zbo rs (ZaO ns (el23 l) (el23 l).length).1 Y
 generalize el23 l=m at *
 have hlen:=Zfk ns m m.length
 refine⟨fun k=>(ZaO ns m (k+1)).2 - 1,by omega,fun k e he=>?_,fun k hk=>?_,fun k hk=>?_,fun k e he=>?_⟩
 ·obtain⟨h1,rfl⟩:=Zhg ns m m.length k e he
  exact ZwZ rs ns hns _ k _ _ hs
 ·have:=Zi4 ns m (k+1)
  omega
 ·have:=Zi4 ns m (k+1)
  show(ZaO ns m (k+1)).2 - 1<(ZaO ns m (k+1+1)).2 - 1
  omega
 ·obtain⟨h1,rfl⟩:=Zhg ns m m.length k e he
  generalize m.getD k e23Z=x at *
  have o:=ZhW x.at_ 24 (by decide)
  have b0:=Int.emod_nonneg x.base (b:=3) (by decide)
  have b1:=Int.emod_lt_of_pos x.base (b:=3) (by decide)
  have d0:=Int.emod_nonneg x.day (b:=20) (by decide)
  have d1:=Int.emod_lt_of_pos x.day (b:=20) (by decide)
  have w0:=Int.emod_nonneg x.day (b:=7) (by decide)
  have w1:=Int.emod_lt_of_pos x.day (b:=7) (by decide)
  show if k+1<_ then ZvY (Zl0 x (ZaO ns m (k+1)).2 (decide ((k:Int)<(m.length:Int) - 1))) ((ZaO ns m (k+1)).2 - 1) else Zl0 x (ZaO ns m (k+1)).2 (decide ((k:Int)<(m.length:Int) - 1))=Zzc
  rw[hlen]
  by_cases hk:k+1<m.length
  ·rw[if_pos hk,decide_eq_true (by omega)]
   unfold Zl0
   rw[if_pos rfl]
   refine .inr ⟨Zt8 x,_,_,by rw[show(ZaO ns m (k+1)).2 - 1+1=(ZaO ns m (k+1)).2 by omega],?_,by omega,by omega,by omega,by omega⟩
   unfold Zt8
   split
   ·exact .inr ⟨rfl,⟨w0,by dsimp only;omega⟩,rfl⟩
   ·exact .inl ⟨rfl,rfl,by dsimp only;omega,by dsimp only;omega⟩
  ·rw[if_neg hk,decide_eq_false (by omega)]
   rfl
theorem ZjQ (rs:List Zab)(ns:Nat)(hns:1<=ns)(zs:List (List E23))(hs:∀ j,j<ns->Zbl (ofB rs (sN j))/\(ofB rs (sN j)).length<=5):∀ i,∀ z∈Zbz ns zs i,∃ Y,Zbo rs z.eras Y
 | 0,z,h=>by cases h
 | i+1,z,h=>by
  rw[Zbz,List.mem_append,List.mem_singleton]at h
  rcases h with h|rfl
  ·exact ZjQ rs ns hns zs hs i z h
  ·exact Zsd rs ns hns i _ hs
theorem ns23 (d:DD23):1<=d.ns/\d.ns<=3:=by unfold DD23.ns;omega
theorem ZcC (d:DD23):∀ z∈(ZbD d).zones,∃ Y,Zbo (ZbD d).rules z.eras Y :=
 ZjQ (ZaV d.sets d.ns) d.ns (ns23 d).1 (zl23 d.zones) (fun j hj=>ZfV d.sets d.ns (ns23 d).2 j hj) (zl23 d.zones).length
theorem Zoq (d:DD23):ZjL (ZbD d)=none:=Zl9 d.sets d.ns (ns23 d).2
def ZkR:List ByteArray:=[⟨#[65,114,101,97,47,90,48]⟩,⟨#[65,114,101,97,47,90,49]⟩,⟨#[65,114,101,97,47,90,50]⟩]
def ZiD:List ByteArray:=[⟨#[79,108,100,47,76,48]⟩,⟨#[79,108,100,47,76,49]⟩,⟨#[79,108,100,47,76,50]⟩,⟨#[79,108,100,47,76,51]⟩]
theorem ZjS:∀ i:Fin 3,sZ++dig ((i.val:Nat):Int)=ZkR.getD i.val ByteArray.empty:=by decide +kernel
theorem Zkj:∀ i:Fin 4,sL++dig ((i.val:Nat):Int)=ZiD.getD i.val ByteArray.empty:=by decide +kernel
def Zrp (nz c:Nat):ByteArray:=if c<nz then ZkR.getD c ByteArray.empty else ZiD.getD (c - nz) ByteArray.empty
def ZjO (nz:Nat)(c:Nat->Nat):Nat->List Zcj
 | 0=>[]
 | i+1=>ZjO nz c i++[⟨Zrp nz (c i),ZiD.getD i ByteArray.empty⟩]
def ZqR:Nat->List Za5
 | 0=>[]
 | i+1=>ZqR i++[⟨ZkR.getD i ByteArray.empty,[]⟩]
def ch4 (a b c d:Nat)(i:Nat):Nat:=match i with|0=>a|1=>b|2=>c|_=>d
theorem Zou:∀ nz:Fin 4,∀ nl:Fin 5,∀ a:Fin 3,∀ b:Fin 4,∀ c:Fin 5,∀ d:Fin 6,a.val<nz.val->b.val<nz.val+1->c.val<nz.val+2->d.val<nz.val+3 ->
  ZcD ⟨[],ZqR nz.val,ZjO nz.val (ch4 a.val b.val c.val d.val) nl.val,[]⟩=none:=by decide +kernel
theorem ZeA (sets:Int)(zs:List (List E23)):∀ i,i<=3->(Zbz sets zs i).map Zlv=ZqR i
 | 0,_=>rfl
 | i+1,h=>by
  rw[Zbz,List.map_append,ZeA sets zs i (by omega),ZqR,<- ZjS ⟨i,by omega⟩]
  rfl
theorem Zts (nz:Nat)(h1:1<=nz)(h3:nz<=3)(n:Int)(i:Nat)(hi:i<4):∃ c,c<nz+i/\ZhI nz n i=⟨Zrp nz c,ZiD.getD i ByteArray.empty⟩:=by
 have a0:=Int.emod_nonneg n (b:=(nz:Int)+i) (by omega)
 have a1:=Int.emod_lt_of_pos n (b:=(nz:Int)+i) (by omega)
 have b0:=Int.emod_nonneg n (b:=(nz:Int)) (by omega)
 have b1:=Int.emod_lt_of_pos n (b:=(nz:Int)) (by omega)
 unfold ZhI
 rw[Zkj ⟨i,hi⟩]
 by_cases h:n % ((nz:Int)+i) >= nz
 ·refine⟨(n % ((nz:Int)+i)).toNat,by omega,?_⟩
  rw[if_pos h]
  unfold Zrp
  rw[if_neg (by omega),<- Zkj ⟨(n % ((nz:Int)+i)).toNat - nz,by omega⟩]
  dsimp only
  rw[show(((n % ((nz:Int)+i)).toNat - nz:Nat):Int)=n % ((nz:Int)+i) - nz by omega]
 ·refine⟨(n % (nz:Int)).toNat,by omega,?_⟩
  rw[if_neg h]
  unfold Zrp
  rw[if_pos (by omega),<- ZjS ⟨(n % (nz:Int)).toNat,by omega⟩]
  dsimp only
  rw[Int.toNat_of_nonneg b0]
theorem Zf2 (nz:Nat)(c c':Nat->Nat):∀ n,(∀ i,i<n->c i=c' i)->ZjO nz c n=ZjO nz c' n
 | 0,_=>rfl
 | n+1,h=>by rw[ZjO,ZjO,Zf2 nz c c' n fun i hi=>h i (by omega),h n (by omega)]
theorem Zf3 (nz:Nat)(h1:1<=nz)(h3:nz<=3)(L:List Int):∀ i:Nat,i<=4->∃ c:Nat->Nat,(∀ k,c k<nz+k)/\ZbE nz L i=ZjO nz c i
 | 0,_=>⟨fun _=>0,fun k=>by dsimp only;omega,rfl⟩
 | i+1,h=>by
  obtain⟨c,q1,q2⟩:=Zf3 nz h1 h3 L i (by omega)
  obtain⟨x,q3,q4⟩:=Zts nz h1 h3 (L.getD i 0) i (by omega)
  refine⟨fun k=>if k=i then x else c k,fun k=>?_,?_⟩
  ·dsimp only
   split
   ·rename_i e;rw[e];exact q3
   ·exact q1 k
  ·rw[ZbE,q2,q4,ZjO,Zf2 nz (fun k=>if k=i then x else c k) c i fun k hk=>if_neg (by omega),if_pos rfl]
theorem ZmA (d:DD23):ZcD (ZbD d)=none:=by
 obtain⟨z1,z3⟩:=Ze7 d.zones
 have hl:(d.links.take 4).length<=4:=by rw[List.length_take];omega
 obtain⟨c,q1,q2⟩:=Zf3 (zl23 d.zones).length z1 z3 (d.links.take 4) (d.links.take 4).length hl
 rw[Zot]
 unfold ZbD ZhU
 dsimp only
 rw[ZeA _ _ _ z3,q2,Zf2 _ c (ch4 (c 0) (c 1) (c 2) (c 3)) _ fun i hi=>by
  have hc:i=0\/i=1\/i=2\/i=3:=by omega
  rcases hc with rfl|rfl|rfl|rfl <;> rfl]
 have r0:=q1 0
 have r1:=q1 1
 have r2:=q1 2
 have r3:=q1 3
 exact Zou ⟨_,by omega⟩ ⟨_,by omega⟩ ⟨c 0,by omega⟩ ⟨c 1,by omega⟩ ⟨c 2,by omega⟩ ⟨c 3,by omega⟩ (by dsimp only;omega) (by dsimp only;omega) (by dsimp only;omega) (by dsimp only;omega)
theorem Zmy (d:DD23):ZfE (ZbD d)=none:=by
 have h1:=Zda d.sets d.ns
 have hm:=(ns23 d).2
 obtain⟨z1,z3⟩:=Ze7 d.zones
 have hr:(ZbD d).rules.length<=15:=by
  show(ZaV d.sets d.ns).length<=15
  omega
 have hz:(ZbD d).zones.length<=3:=by
  show(Zbz d.ns (zl23 d.zones) (zl23 d.zones).length).length<=3
  rw[Zc2];exact z3
 have hk:(ZbD d).links.length<=4:=by
  show(ZbE (zl23 d.zones).length (d.links.take 4) (d.links.take 4).length).length<=4
  rw[Zeb,List.length_take];omega
 have hf:(ZbD d).zones.findIdx? (fun z=>decide (60<z.eras.length))=none:=by
  rw[List.findIdx?_eq_none_iff]
  intro z hz
  obtain⟨Y,h⟩:=ZcC d z hz
  have:=h.len
  exact decide_eq_false (by omega)
 unfold ZfE
 rw[if_neg (by omega),if_neg (by omega),hf]
 dsimp only
 rw[if_neg (by omega),if_neg (by show ¬ 2000<([]:List ByteArray).length;decide)]
theorem Zkg (d:DD23):accD (ZbD d)=none:=by
 unfold accD
 rw[Zmy d,Zoq d,ZmA d,Zhx _ 0 (ZcC d)]
 rfl
attribute [local irreducible] W RL Does Zau Zak retQ Calls Pu Stp RD Qy Ay Zaj
theorem ZiS (x:ByteArray)(z:Za5):∀ (l:List Za5) (k:Nat),Zbu x (l++[z]) k=(Zbu x l k).or (if z.name=x then some (k+l.length) else none)
 | [],k=>by simp[Zbu]
 | y::l,k=>by
  simp only[List.cons_append,Zbu,ZiS x z l]
  split
  ·rfl
  ·rw[List.length_cons,show k+1+l.length=k+(l.length+1) by omega]
theorem ZiT (x:ByteArray)(z:Zcj):∀ (l:List Zcj) (k:Nat),Zcm x (l++[z]) k=(Zcm x l k).or (if z.name=x then some (k+l.length) else none)
 | [],k=>by simp[Zcm]
 | y::l,k=>by
  simp only[List.cons_append,Zcm,ZiT x z l]
  split
  ·rfl
  ·rw[List.length_cons,show k+1+l.length=k+(l.length+1) by omega]
theorem ZmU (x:ByteArray):∀ (l:List Zcj) (k i:Nat),Zcm x l k=some i->k<=i/\i<k+l.length
 | [],_,_,h=>by cases h
 | z::l,k,i,h=>by
  simp only[Zcm]at h
  split at h
  ·simp only[Option.some.injEq]at h;subst h;simp
  ·have:=ZmU x l (k+1) i h;simp only[List.length_cons];omega
theorem Zkr {z:Za5}:∀ {l:List Za5} (k:Nat),z∈l->∃ j,Zbu z.name l k=some j
 | y::l,k,h=>by
  simp only[Zbu]
  split
  ·exact⟨_,rfl⟩
  ·rename_i hn
   rcases List.mem_cons.1 h with rfl|h
   ·exact absurd rfl hn
   ·exact Zkr (k+1) h
theorem Zks {z:Zcj}:∀ {l:List Zcj} (k:Nat),z∈l->∃ j,Zcm z.name l k=some j
 | y::l,k,h=>by
  simp only[Zcm]
  split
  ·exact⟨_,rfl⟩
  ·rename_i hn
   rcases List.mem_cons.1 h with rfl|h
   ·exact absurd rfl hn
   ·exact Zks (k+1) h
def IxM (m:List (ByteArray × Value))(f:ByteArray->Option Nat):Prop:=∀ x,mget m x=(f x).map fun i:Nat=>Value.int .i64 (i:Int)
theorem IxM.some {m:List (ByteArray × Value)}{f:ByteArray->Option Nat}(h:IxM m f){x:ByteArray}{i:Nat}(hf:f x=some i):(mget m x).getD (.int .i64 0) = .int .i64 i/\(mget m x).isSome=true:=by
 rw[h x,hf];exact⟨rfl,rfl⟩
theorem IxM.none {m:List (ByteArray × Value)}{f:ByteArray->Option Nat}(h:IxM m f){x:ByteArray}(hf:f x=none):(mget m x).getD (.int .i64 0) = .int .i64 0/\(mget m x).isSome=false:=by
 rw[h x,hf];exact⟨rfl,rfl⟩
theorem IxM.set {m:List (ByteArray × Value)}{f f':ByteArray->Option Nat}(h:IxM m f){k:ByteArray}{i:Nat}(hf:∀ x,f' x=if x=k then Option.some i else f x):IxM (mset m k (.int .i64 i)) f':=fun x=>by
 rw[ZeM,hf x]
 split
 ·rfl
 ·exact h x
def ZBe (f:ByteArray->Option Nat)(N:Nat)(v:Value)(O:List It):Prop:=∃ b m,v = .map (some b)/\O=[.mp b m]/\IxM m f/\Nd m/\m.length<=N
structure LG where
 k:Nat
 mp:List (ByteArray × Value)
theorem ZqF {G:Prop}(h:G:=by(first|exact PuI|(apply Zb5;rfl;rfl;(focus repeat' constructor);exact hv0;exact hc0))):G:=h
theorem ZiB (Ar Az Al As:Option Addr)(cr cz cl cs:Nat)(a:Zai)(w:World)(hA:Zav w Ar Az Al As cr cz cl cs a)(hn:a.zones.length<=1000000) :
  Does Tryz.prog 146 [srcV Ar Az Al As cr cz cl cs a] w (ZBe (fun x=>Zbu x a.zones 0) a.zones.length):=by
 refine Zaa Tryz.func146 rfl rfl rfl rfl ?_
 repeat (first|(refine js ?_;(first|(apply ZhO;rfl;intro bk)|(refine bx ?_;intro bk)))|refine walk ?_)
 refine Zao [(3,.map (some bk)),(13,.slice Az a.zones.length cz),(14,.int .i64 a.zones.length)] [] (fun g:LG=>[(15,.int .i64 g.k)]) (fun g=>[.mp bk g.mp]) (fun g=>g.k<=a.zones.length/\IxM g.mp (fun x=>Zbu x (a.zones.take g.k) 0)/\Nd g.mp/\g.mp.length<=g.k) (fun g=>a.zones.length - g.k) ⟨0,[]⟩ SFA SOA ⟨Nat.zero_le _,fun x=>rfl,List.nodup_nil,Nat.le_refl _⟩ ?_
 obtain⟨bm,hbm⟩:∃ bm,bk=bm:=⟨_,rfl⟩
 rw[hbm]
 clear hbm bk
 rintro⟨k,mp⟩ ⟨hk,hm,hd,hl⟩
 dsimp only at hk hm hd hl ⊢
 repeat (first|(refine js ?_;(refine bx ?_;intro bk))|refine walk ?_)
 refine Zaf rfl (fun hc=>?_) (fun hc=>?_)
 ·simp only[decide_eq_true_eq,Int.ofNat_lt]at hc
  obtain⟨hna,cs1,⟨Ae,ce,_,rfl⟩,hca⟩:=hA.z k _ (List.getElem?_eq_getElem hc)
  have ht:=List.take_append_getElem hc
  have hlen:(a.zones.take k).length=k:=by rw[List.length_take];omega
  generalize a.zones[k]=z at *
  have hsn:=fun x=>ZiS x z (a.zones.take k) 0
  rw[ht,hlen]at hsn
  cases hf:Zbu z.name (a.zones.take k) 0 with
  | none =>
   obtain⟨hv0,hc0⟩:=hm.none hf
   repeat (first|(apply RL_pu;rfl;exact ZqF)|(refine js ?_;(refine bx ?_;intro bk))|refine walk1 ?_)
   refine⟨⟨k+1,mset mp z.name (.int .i64 k)⟩,OA,⟨OA,hm.set (k:=z.name) (i:=k) (fun x=>?_),hd.set _ _,?_⟩,SFA,SOA⟩
   ·dsimp only
    rw[hsn x]
    by_cases e:x=z.name
    ·subst e;simp[hf]
    ·rw[if_neg e,if_neg (fun h=>e h.symm),Option.or_none]
   ·have:=Zk7 z.name (.int .i64 (k:Int)) mp
    dsimp only
    omega
  | some j =>
   obtain⟨hv0,hc0⟩:=hm.some hf
   repeat (first|(apply RL_pu;rfl;exact ZqF)|(refine js ?_;(refine bx ?_;intro bk))|refine walk1 ?_)
   refine⟨⟨k+1,mp⟩,OA,⟨OA,fun x=>?_,hd,OA⟩,SFA,SOA⟩
   dsimp only
   rw[hm x,hsn x]
   dsimp only
   by_cases e:z.name=x
   ·subst e;rw[hf];rfl
   ·rw[if_neg e,Option.or_none]
 ·simp only[decide_eq_false_iff_not,Int.ofNat_lt]at hc
  rw[List.take_of_length_le (by omega)]at hm
  repeat (first|(refine js ?_;(refine bx ?_;intro bk))|refine walk ?_)
  exact ret_1 _ [.mp bm mp] (.tmp rfl) SOA ⟨bm,mp,rfl,rfl,hm,hd,by omega⟩
theorem Zgn (Ar Az Al As:Option Addr)(cr cz cl cs:Nat)(a:Zai)(w:World)(hA:Zav w Ar Az Al As cr cz cl cs a)(hn:a.links.length<=1000000) :
  Does Tryz.prog 147 [srcV Ar Az Al As cr cz cl cs a] w (ZBe (fun x=>Zcm x a.links 0) a.links.length):=by
 refine Zaa Tryz.func147 rfl rfl rfl rfl ?_
 repeat (first|(refine js ?_;(first|(apply ZhO;rfl;intro bk)|(refine bx ?_;intro bk)))|refine walk ?_)
 refine Zao [(3,.map (some bk)),(13,.slice Al a.links.length cl),(14,.int .i64 a.links.length)] [] (fun g:LG=>[(15,.int .i64 g.k)]) (fun g=>[.mp bk g.mp]) (fun g=>g.k<=a.links.length/\IxM g.mp (fun x=>Zcm x (a.links.take g.k) 0)/\Nd g.mp/\g.mp.length<=g.k) (fun g=>a.links.length - g.k) ⟨0,[]⟩ SFA SOA ⟨Nat.zero_le _,fun x=>rfl,List.nodup_nil,Nat.le_refl _⟩ ?_
 obtain⟨bm,hbm⟩:∃ bm,bk=bm:=⟨_,rfl⟩
 rw[hbm]
 clear hbm bk
 rintro⟨k,mp⟩ ⟨hk,hm,hd,hl⟩
 dsimp only at hk hm hd hl ⊢
 repeat (first|(refine js ?_;(refine bx ?_;intro bk))|refine walk ?_)
 refine Zaf rfl (fun hc=>?_) (fun hc=>?_)
 ·simp only[decide_eq_true_eq,Int.ofNat_lt]at hc
  obtain⟨hna,hca⟩:=hA.l.rd k _ (List.getElem?_eq_getElem hc)
  have ht:=List.take_append_getElem hc
  have hlen:(a.links.take k).length=k:=by rw[List.length_take];omega
  generalize a.links[k]=z at *
  have hsn:=fun x=>ZiT x z (a.links.take k) 0
  rw[ht,hlen]at hsn
  cases hf:Zcm z.name (a.links.take k) 0 with
  | none =>
   obtain⟨hv0,hc0⟩:=hm.none hf
   repeat (first|(apply RL_pu;rfl;exact ZqF)|(refine js ?_;(refine bx ?_;intro bk))|refine walk1 ?_)
   refine⟨⟨k+1,mset mp z.name (.int .i64 k)⟩,OA,⟨OA,hm.set (k:=z.name) (i:=k) (fun x=>?_),hd.set _ _,?_⟩,SFA,SOA⟩
   ·dsimp only
    rw[hsn x]
    by_cases e:x=z.name
    ·subst e;simp[hf]
    ·rw[if_neg e,if_neg (fun h=>e h.symm),Option.or_none]
   ·have:=Zk7 z.name (.int .i64 (k:Int)) mp
    dsimp only
    omega
  | some j =>
   obtain⟨hv0,hc0⟩:=hm.some hf
   repeat (first|(apply RL_pu;rfl;exact ZqF)|(refine js ?_;(refine bx ?_;intro bk))|refine walk1 ?_)
   refine⟨⟨k+1,mp⟩,OA,⟨OA,fun x=>?_,hd,OA⟩,SFA,SOA⟩
   dsimp only
   rw[hm x,hsn x]
   dsimp only
   by_cases e:z.name=x
   ·subst e;rw[hf];rfl
   ·rw[if_neg e,Option.or_none]
 ·simp only[decide_eq_false_iff_not,Int.ofNat_lt]at hc
  rw[List.take_of_length_le (by omega)]at hm
  repeat (first|(refine js ?_;(refine bx ?_;intro bk))|refine walk ?_)
  exact ret_1 _ [.mp bm mp] (.tmp rfl) SOA ⟨bm,mp,rfl,rfl,hm,hd,by omega⟩
theorem Zw3:ZtE Tryz.prog 219:=fun args w=>by
 rw[run_callFunc_extern Tryz.func219 (by kernel_rfl) (by kernel_rfl) (by kernel_rfl) (e:=Extern.MapsClone.clone) (by kernel_rfl)]
theorem Zon (b:Nat)(m:List (ByteArray × Value))(w:World)(h:MpAt w b m) :
  Does Tryz.prog 190 [.map (some b)] w (fun v O=>∃ b2,v = .map (some b2)/\O=[.mp b2 m]):=by
 refine Zaa Tryz.func190 rfl rfl rfl rfl ?_
 repeat (first|(apply RL_pu;rfl;(first|(apply Zpg;rfl)|(apply Zpf;rfl)|(apply ZnF;rfl)))|(refine js ?_;(apply Zly;exact Zw3;rfl;(intro w' hw _;exact h.up hw (Nat.le_refl _));intro bk))|refine walk1 ?_)
 exact ret_1 _ _ (.tmp rfl) (.refl _) ⟨_,rfl,rfl⟩
structure FG where
 seen:List ByteArray
 x:ByteArray
 mp:List (ByteArray × Value)
 f:Nat
theorem Ztn (x y:ByteArray)(l:List ByteArray):memB x (y::l)=(decide (y=x)||memB x l):=rfl
theorem Zyx {G:Prop}(h:G:=by(apply ZfP;rfl;rfl;exact h1;exact hv0;exact hc0)):G:=h
theorem Zvv {G:Prop}(h:G:=by(first|exact Zyx|(apply ZfP;rfl;rfl;exact h2;exact hv1;exact hc1)|(apply Zb5;rfl;rfl;(focus repeat' constructor);exact hv2;exact hc2))):G:=h
theorem ZiO (Ar Az Al As:Option Addr)(cr cz cl cs:Nat)(a:Zai)(b1 b2:Nat)(mk ml:List (ByteArray × Value))(name:ByteArray)(w:World)(hA:Zav w Ar Az Al As cr cz cl cs a)(h1:MpAt w b1 mk)(h2:MpAt w b2 ml)
  (hk:IxM mk fun x=>Zbu x a.zones 0) (hl:IxM ml fun x=>Zcm x a.links 0) (hd:Nd ml) (hlen:ml.length<=a.links.length) :
  Does Tryz.prog 145 [srcV Ar Az Al As cr cz cl cs a,.map (some b1),.map (some b2),.string name] w (fun v O=>v = .tuple #[.int .i64 (Zbd a (a.links.length+1) [] name).1,.int .i64 (Zbd a (a.links.length+1) [] name).2]/\O=[]):=by
 obtain⟨res,hres⟩:∃ res,Zbd a (a.links.length+1) [] name=res:=⟨_,rfl⟩
 rw[hres]
 refine Zaa Tryz.func145 rfl rfl rfl rfl ?_
 repeat (first|(refine js ?_;(first|(apply Zag (h:=fun w' hw _=>Zon b2 ml w' (h2.up hw (Nat.le_refl _)));rfl;rintro v O' ⟨bc,rfl,rfl⟩)|(refine bx ?_;intro bk)))|refine walk ?_)
 refine Zao [(1,.map (some b1)),(2,.map (some b2)),(4,.pointer (some ⟨bk,0,none⟩)),(10,.map (some bc))] [.blk bk [.slice Ar a.rules.length cr,.slice Az a.zones.length cz,.slice Al a.links.length cl,.slice As a.shifts.length cs] 32] (fun g:FG=>[(3,.string g.x)]) (fun g=>[.mp bc g.mp])
  (fun g=>Nd g.mp/\(∀ x,mget g.mp x=if memB x g.seen then none else mget ml x)/\Zbd a g.f g.seen g.x=res/\g.mp.length<g.f) (fun g=>g.mp.length) ⟨[],name,ml,a.links.length+1⟩ SFA SOA ⟨hd,fun x=>rfl,hres,by dsimp only;omega⟩ ?_
 rintro⟨seen,x,mp,f⟩ ⟨hd2,hm,hi,hf⟩
 dsimp only at hd2 hm hi hf ⊢
 obtain⟨f,rfl⟩:∃ f',f=f'+1:=⟨f - 1,by omega⟩
 rw[Zbd]at hi
 cases hz:Zbu x a.zones 0 with
 | some i =>
  rw[hz]at hi
  obtain⟨hv0,hc0⟩:=hk.some hz
  repeat (first|(apply RL_pu;rfl;exact Zyx)|(refine js ?_;(refine bx ?_;intro bk))|refine walk1 ?_)
  exact ret_2 _ _ [] (.tmp rfl) (.tmp rfl) .nil ⟨by rw[<- hi] <;> rfl,rfl⟩
 | none =>
  rw[hz]at hi
  obtain⟨hv0,hc0⟩:=hk.none hz
  cases hy:Zcm x a.links 0 with
  | none =>
   rw[hy]at hi
   obtain⟨hv1,hc1⟩:=hl.none hy
   have hg:mget mp x=none:=by
    rw[hm x,hl x]
    dsimp only
    rw[hy]
    split <;> rfl
   have hv2:(mget mp x).getD (.int .i64 0) = .int .i64 0:=by rw[hg];rfl
   have hc2:(mget mp x).isSome=false:=by rw[hg];rfl
   repeat (first|(apply RL_pu;rfl;exact Zvv)|(refine js ?_;(refine bx ?_;intro bk))|refine walk1 ?_)
   exact ret_2 _ _ [] (.tmp rfl) (.tmp rfl) .nil ⟨by rw[<- hi] <;> rfl,rfl⟩
  | some i =>
   rw[hy]at hi
   dsimp only at hi
   obtain⟨hv1,hc1⟩:=hl.some hy
   cases hs:memB x seen with
   | true =>
    rw[hs,if_pos rfl]at hi
    have hg:mget mp x=none:=by rw[hm x,hs];rfl
    have hv2:(mget mp x).getD (.int .i64 0) = .int .i64 0:=by rw[hg];rfl
    have hc2:(mget mp x).isSome=false:=by rw[hg];rfl
    repeat (first|(apply RL_pu;rfl;exact Zvv)|(refine js ?_;(refine bx ?_;intro bk))|refine walk1 ?_)
    exact ret_2 _ _ [] (.tmp rfl) (.tmp rfl) .nil ⟨by rw[<- hi] <;> rfl,rfl⟩
   | false =>
    rw[hs,if_neg (by decide)]at hi
    have hg:mget mp x=some (.int .i64 i):=by rw[hm x,hs,hl x];dsimp only;rw[hy];rfl
    have hv2:(mget mp x).getD (.int .i64 0) = .int .i64 i:=by rw[hg];rfl
    have hc2:(mget mp x).isSome=true:=by rw[hg];rfl
    have hdl:=Zp4 x hc2
    have hlt:i<a.links.length:=by have:=ZmU x a.links 0 i hy;omega
    obtain⟨hna,hca⟩:=hA.l.rd i _ (List.getElem?_eq_getElem hlt)
    rw[List.getElem?_eq_getElem hlt]at hi
    generalize a.links[i]=lk at *
    simp only[Option.map_some,Option.getD_some]at hi
    repeat (first|(apply RL_pu;rfl;(first|exact Zvv|exact PuI))|(refine js ?_;(first|(apply Zr1;rfl;rfl;(focus repeat' constructor))|(refine bx ?_;intro bk)))|refine walk1 ?_)
    refine⟨⟨x::seen,lk.target,mdel mp x,f⟩,OA,⟨hd2.del _,fun y=>?_,hi,OA⟩,SFA,SOA⟩
    dsimp only
    rw[Zmq x y hd2,hm y,Ztn]
    by_cases e:x=y
    ·subst e;simp
    ·rw[if_neg (fun h=>e h.symm),show decide (x=y)=false from decide_eq_false e,Bool.false_or]
end Go.Proofs.YtdlmhmmhdbbliaaGreatDoor
