/- Parts of the proof. -/
import Derived.Test.YtdlmhmmhdbbliaaGreatDoorV37
import Derived.Shelf.Lay
import Derived.Shelf.Strings.SlTrimAscii
import Derived.Shelf.Strings.Runes
import Derived.Test.YtdlmhmmhdbbliaaGreatDoorV06
import Derived.Lib.TrimUEq
import Derived.Shelf.GgClosure.StringsIndexFunc
import Derived.Test.YtdlmhmmhdbbliaaGreatDoorV20
import Derived.Test.YtdlmhmmhdbbliaaGreatDoorV30
import Derived.Test.YtdlmhmmhdbbliaaGreatDoorV36
set_option maxHeartbeats 4000000
set_option linter.unusedVariables false
set_option linter.unusedSimpArgs false
namespace Go.Proofs.YtdlmhmmhdbbliaaGreatDoor
open Go Go.RowKit Go.Wk
def hdNo (f:UInt8->Bool)(R:List UInt8):Prop:=∀ b,R.head?=some b->f b=false
theorem hdNo.nil (f:UInt8->Bool):hdNo f []:=fun b h=>by cases h
theorem hdNo.cons {f:UInt8->Bool}{b:UInt8}(h:f b=false)(R:List UInt8):hdNo f (b::R):=fun c hc=>by cases hc;exact h
theorem hdNo.app {f:UInt8->Bool}{A:List UInt8}(h:hdNo f A)(hA:A≠[])(R:List UInt8):hdNo f (A++R):=fun c hc=>by
 cases A with
 | nil=>exact absurd rfl hA
 | cons a A=>exact h c hc
theorem ZjZ {f:UInt8->Bool}{R:List UInt8}(hR:hdNo f R):∀ {A:List UInt8},A.all f=true->(A++R).takeWhile f=A/\(A++R).dropWhile f=R
 | [],_=>by
  cases R with
  | nil=>exact⟨rfl,rfl⟩
  | cons b R=>have:=hR b rfl;simp[this]
 | a::A,h=>by
  rw[List.all_cons,Bool.and_eq_true]at h
  obtain⟨h1,h2⟩:=ZjZ hR h.2
  simp only[List.cons_append,List.takeWhile_cons,List.dropWhile_cons,h.1,if_true,h1,h2,and_self]
def letC (b:UInt8):Bool:=(decide (65<=b.toNat)&&decide (b.toNat<=90))||(decide (97<=b.toNat)&&decide (b.toNat<=122))
def secC (b:UInt8):Bool:=digC b||decide (b.toNat=45)||decide (b.toNat=58)
def ZcT:List UInt8:=[65,66,67,68,69,70,71,72,73,74,75,76,77,78,79,80,81,82,83,84,85,86,87,88,89,90,97,98,99,100,101,102]++[103,104,105,106,107,108,109,110,111,112,113,114,115,116,117,118,119,120,121,122]
def ZbY:List UInt8:=[48,49,50,51,52,53,54,55,56,57]
theorem Zc7 (f g:UInt8->Bool)(h:∀ b:Fin 256,f (UInt8.ofNat b.val)=g (UInt8.ofNat b.val))(b:UInt8):f b=g b:=by
 have:=h ⟨b.toNat,b.toNat_lt⟩
 simpa using this
theorem ZpM (b:UInt8):(ZcT++ZbY++[43,45]).contains b=Zb9 b:=Zc7 (fun b=>(ZcT++ZbY++[43,45]).contains b) Zb9 (by decide +kernel) b
theorem ZyV (b:UInt8):ZcT.contains b=letC b:=Zc7 (fun b=>ZcT.contains b) letC (by decide +kernel) b
theorem ZyT (b:UInt8):(45::58::ZbY).contains b=secC b:=Zc7 (fun b=>(45::58::ZbY).contains b) secC (by decide +kernel) b
theorem ZyW (b:UInt8):ZbY.contains b=digC b:=Zc7 (fun b=>ZbY.contains b) digC (by decide +kernel) b
theorem ZyU (b:UInt8):(ZbY++[43,45]).contains b=othC b:=Zc7 (fun b=>(ZbY++[43,45]).contains b) othC (by decide +kernel) b
theorem Zol (b:UInt8):Zb9 b=(letC b||othC b):=Zc7 Zb9 (fun b=>letC b||othC b) (by decide +kernel) b
theorem Zy3 (b:UInt8):(Zb9 b&&decide (b=60))=false:=Zc7 (fun b=>Zb9 b&&decide (b=60)) (fun _=>false) (by decide +kernel) b
theorem ZoI (b:UInt8)(h:digC b=true):secC b=true:=by unfold secC;rw[h];rfl
theorem Zzp (b:UInt8):(digC b&&letC b)=false:=Zc7 (fun b=>digC b&&letC b) (fun _=>false) (by decide +kernel) b
theorem Zm6 (b:UInt8):(digC b&&(decide (b=44)||decide (b=74)||decide (b=77)||decide (b=60)))=false:=Zc7 (fun b=>digC b&&(decide (b=44)||decide (b=74)||decide (b=77)||decide (b=60))) (fun _=>false) (by decide +kernel) b
theorem Zlw {f g:UInt8->Bool}(h:∀ b,f b=true->g b=true){l:List UInt8}(hl:l.all f=true):l.all g=true:=by
 rw[List.all_eq_true]at hl ⊢
 exact fun b hb=>h b (hl b hb)
theorem ZsQ {n:List UInt8}(hn:namL n=true){R:List UInt8}(hR:hdNo letC R) :
  (n.any othC=true/\quL n++R=60::(n++62::R)/\(n++62::R).takeWhile Zb9=n/\(n++62::R).dropWhile Zb9=62::R) \/
  (n.any othC=false/\quL n++R=n++R/\hdNo (fun b=>decide (b=60)) (n++R)/\(n++R).takeWhile letC=n/\(n++R).dropWhile letC=R):=by
 unfold namL at hn
 simp only[Bool.and_eq_true,decide_eq_true_eq]at hn
 obtain⟨⟨h1,h2⟩,h3⟩:=hn
 unfold quL
 cases ho:n.any othC with
 | true =>
  obtain⟨a,b⟩:=ZjZ (f:=Zb9) (R:=62::R) (hdNo.cons (by decide) R) h3
  exact .inl ⟨rfl,by rw[if_pos rfl];simp,a,b⟩
 | false =>
  have hl:n.all letC=true:=by
   rw[List.all_eq_true]at h3 ⊢
   intro b hb
   have h4:=h3 b hb
   rw[List.any_eq_false]at ho
   have h5:=ho b hb
   rw[Zol]at h4
   revert h4 h5
   cases letC b <;> cases othC b <;> simp
  obtain⟨a,b⟩:=ZjZ hR hl
  refine .inr ⟨rfl,by rw[if_neg (by decide)],?_,a,b⟩
  cases n with
  | nil=>simp at h1
  | cons c n =>
   refine hdNo.cons ?_ _
   have h4:=List.all_eq_true.1 h3 c List.mem_cons_self
   have:=Zy3 c
   rw[h4,Bool.true_and]at this
   exact this
theorem ZsH {x:Int}(h0 : -3599999<=x)(h1:x<=3599999):(shL x).all secC=true/\(shL x)≠[]/\hdNo letC (shL x)/\hdNo (fun b=>decide (b=44)) (shL x):=by
 unfold shL
 have hy:0<=absI x/\absI x<=3599999:=by unfold absI;split <;> omega
 have hs:(sgL x).all secC=true/\(sgL x=[]\/sgL x=[45]):=by unfold sgL;split <;> simp <;> decide
 generalize absI x=y at *
 have hd:=Zb2 (n:=y / 3600) (by omega) (by omega)
 have h2:=(Zi7 (n:=y / 60 % 60) (by omega) (by omega)).1
 have h3:=(Zi7 (n:=y % 60) (by omega) (by omega)).1
 have a1:=Zlw ZoI hd.dig
 have a2:=Zlw ZoI h2
 have a3:=Zlw ZoI h3
 have hT:(if y % 3600=0 then ([]:List UInt8) else 58::dig2 (y / 60 % 60)++if y % 60=0 then [] else 58::dig2 (y % 60)).all secC=true:=by
  split
  ·rfl
  ·rw[List.all_append,List.all_cons,a2,show secC 58=true by decide,Bool.true_and,Bool.true_and]
   split
   ·rfl
   ·rw[List.all_cons,a3,show secC 58=true by decide]
    rfl
 generalize (if y % 3600=0 then ([]:List UInt8) else 58::dig2 (y / 60 % 60)++if y % 60=0 then [] else 58::dig2 (y % 60))=T at *
 obtain⟨c,D,hD⟩:∃ c D,dgN (y / 3600)=c::D:=by
  cases hD:dgN (y / 3600) with
  | nil=>have:=hd.len;rw[hD]at this;simp at this
  | cons c D=>exact⟨c,D,rfl⟩
 have hc:digC c=true:=by
  have:=hd.dig
  rw[hD,List.all_cons,Bool.and_eq_true]at this
  exact this.1
 rw[hD]at a1 ⊢
 have hcl:letC c=false:=by
  have:=Zzp c
  rw[hc,Bool.true_and]at this
  exact this
 have hcp:decide (c=44)=false:=by
  have:=Zm6 c
  rw[hc,Bool.true_and,Bool.or_eq_false_iff,Bool.or_eq_false_iff,Bool.or_eq_false_iff]at this
  exact this.1.1.1
 obtain⟨s1,s2⟩:=hs
 refine⟨?_,?_,?_,?_⟩
 ·rw[List.all_append,List.all_append,s1,a1,hT]
  rfl
 ·rcases s2 with s2|s2 <;> rw[s2] <;> exact fun hh=>by cases hh
 ·rcases s2 with s2|s2 <;> rw[s2]
  ·exact hdNo.cons hcl _
  ·exact hdNo.cons (by decide) _
 ·rcases s2 with s2|s2 <;> rw[s2]
  ·exact hdNo.cons hcp _
  ·exact hdNo.cons (by decide) _
open Go.Shelf Go.RowKit Go.Lib
def Zn0:Ren where
 f:=fun|160=>73|232=>109|231=>108|227=>110|234=>112|233=>111|236=>114|235=>113|228=>157|271=>159|151=>116|197=>158|120=>197|152=>161|260=>196|137=>198|119=>199|224=>200|225=>201|217=>224|266=>236|n=>n
 t:=fun|9=>9|4=>4|3=>3|5=>5|117=>199|116=>198|0=>0|124=>202|21=>21|105=>246|46=>255|119=>283|139=>307|138=>306|n=>n
 g:=fun|3=>7|4=>8|n=>n
theorem ZyO:Lays.n160 Tryz.prog Zn0 where
 mixed:=by kernel_rfl
 f119:=Tryz.func199.trans (congrArg some (by kernel_rfl))
 f120:=Tryz.func197.trans (congrArg some (by kernel_rfl))
 f137:=Tryz.func198.trans (congrArg some (by kernel_rfl))
 f151:=Tryz.func116.trans (congrArg some (by kernel_rfl))
 f152:=Tryz.func161.trans (congrArg some (by kernel_rfl))
 f160:=Tryz.func73.trans (congrArg some (by kernel_rfl))
 f197:=Tryz.func158.trans (congrArg some (by kernel_rfl))
 f217:=Tryz.func224.trans (congrArg some (by kernel_rfl))
 f224:=Tryz.func200.trans (congrArg some (by kernel_rfl))
 f225:=Tryz.func201.trans (congrArg some (by kernel_rfl))
 f227:=Tryz.func110.trans (congrArg some (by kernel_rfl))
 f228:=Tryz.func157.trans (congrArg some (by kernel_rfl))
 f231:=Tryz.func108.trans (congrArg some (by kernel_rfl))
 f232:=Tryz.func109.trans (congrArg some (by kernel_rfl))
 f233:=Tryz.func111.trans (congrArg some (by kernel_rfl))
 f234:=Tryz.func112.trans (congrArg some (by kernel_rfl))
 f235:=Tryz.func113.trans (congrArg some (by kernel_rfl))
 f236:=Tryz.func114.trans (congrArg some (by kernel_rfl))
 f260:=Tryz.func196.trans (congrArg some (by kernel_rfl))
 f266:=Tryz.func236.trans (congrArg some (by kernel_rfl))
 f271:=Tryz.func159.trans (congrArg some (by kernel_rfl))
 t0:=Tryz.underlying0
 a0:=Tryz.isAgg0
 z0:=Tryz.sizeOf0
 v0:=Tryz.zeroValue0
 t3:=Tryz.underlying3
 a3:=Tryz.isAgg3
 z3:=Tryz.sizeOf3
 v3:=Tryz.zeroValue3
 t4:=Tryz.underlying4
 a4:=Tryz.isAgg4
 z4:=Tryz.sizeOf4
 v4:=Tryz.zeroValue4
 t5:=Tryz.underlying5
 a5:=Tryz.isAgg5
 z5:=Tryz.sizeOf5
 v5:=Tryz.zeroValue5
 t9:=Tryz.underlying9
 a9:=Tryz.isAgg9
 z9:=Tryz.sizeOf9
 v9:=Tryz.zeroValue9
 t21:=Tryz.underlying21
 a21:=Tryz.isAgg21
 z21:=Tryz.sizeOf21
 v21:=Tryz.zeroValue21
 t46:=Tryz.underlying255
 a46:=Tryz.isAgg255
 z46:=Tryz.sizeOf255
 v46:=Tryz.zeroValue255
 t105:=Tryz.underlying246
 a105:=Tryz.isAgg246
 z105:=Tryz.sizeOf246
 v105:=Tryz.zeroValue246
 t116:=Tryz.underlying198
 a116:=Tryz.isAgg198
 z116:=Tryz.sizeOf198
 t117:=Tryz.underlying199
 a117:=Tryz.isAgg199
 z117:=Tryz.sizeOf199
 v117:=Tryz.zeroValue199
 t119:=Tryz.underlying283
 a119:=Tryz.isAgg283
 z119:=Tryz.sizeOf283
 t124:=Tryz.underlying202
 a124:=Tryz.isAgg202
 z124:=Tryz.sizeOf202
 v124:=Tryz.zeroValue202
 t138:=Tryz.underlying306
 a138:=Tryz.isAgg306
 z138:=Tryz.sizeOf306
 v138:=Tryz.zeroValue306
 t139:=Tryz.underlying307
 a139:=Tryz.isAgg307
 z139:=Tryz.sizeOf307
 v139:=Tryz.zeroValue307
 g3:=by kernel_rfl
 g4:=by kernel_rfl
def Zub:Ren where
 f:=fun|151=>116|152=>161|137=>198|119=>199|224=>200|225=>201|217=>224|266=>236|n=>n
 t:=fun|9=>9|21=>21|4=>4|3=>3|5=>5|0=>0|46=>255|n=>n
 g:=fun n=>n
theorem ZBx:Lays.n151 Tryz.prog Zub where
 mixed:=by kernel_rfl
 f119:=Tryz.func199.trans (congrArg some (by kernel_rfl))
 f137:=Tryz.func198.trans (congrArg some (by kernel_rfl))
 f151:=Tryz.func116.trans (congrArg some (by kernel_rfl))
 f152:=Tryz.func161.trans (congrArg some (by kernel_rfl))
 f217:=Tryz.func224.trans (congrArg some (by kernel_rfl))
 f224:=Tryz.func200.trans (congrArg some (by kernel_rfl))
 f225:=Tryz.func201.trans (congrArg some (by kernel_rfl))
 f266:=Tryz.func236.trans (congrArg some (by kernel_rfl))
 t0:=Tryz.underlying0
 a0:=Tryz.isAgg0
 z0:=Tryz.sizeOf0
 v0:=Tryz.zeroValue0
 t3:=Tryz.underlying3
 a3:=Tryz.isAgg3
 z3:=Tryz.sizeOf3
 v3:=Tryz.zeroValue3
 t4:=Tryz.underlying4
 a4:=Tryz.isAgg4
 z4:=Tryz.sizeOf4
 v4:=Tryz.zeroValue4
 t5:=Tryz.underlying5
 a5:=Tryz.isAgg5
 z5:=Tryz.sizeOf5
 v5:=Tryz.zeroValue5
 t9:=Tryz.underlying9
 a9:=Tryz.isAgg9
 z9:=Tryz.sizeOf9
 v9:=Tryz.zeroValue9
 t21:=Tryz.underlying21
 a21:=Tryz.isAgg21
 z21:=Tryz.sizeOf21
 v21:=Tryz.zeroValue21
 t46:=Tryz.underlying255
 a46:=Tryz.isAgg255
 z46:=Tryz.sizeOf255
 v46:=Tryz.zeroValue255
open Go Go.RowKit Go.Wk Go.Lib
attribute [local irreducible] W RL Does Zau Zak retQ Calls Pu Stp RD Qy Ay Zaj
def ZeL:ByteArray:=⟨(ZcT++ZbY++[43,45]).toArray⟩
theorem Zth:ZeL.data.toList=ZcT++ZbY++[43,45]:=rfl
theorem ZnZ (s:ByteArray)(h:namP s=true)(w:World):Does Tryz.prog 73 [.string s,.string ZeL] w (fun v O=>v = .string ByteArray.empty/\O=[]):=by
 have hall:s.data.toList.all Zb9=true:=by
  unfold namP namL at h
  simp only[Bool.and_eq_true]at h
  exact h.2
 have hsz:s.size<=7:=by
  unfold namP namL at h
  simp only[Bool.and_eq_true,decide_eq_true_eq]at h
  simpa using h.1.2
 have he:trimS s.data.toList ZeL.data.toList=[]:=by
  unfold trimS trimRightS
  rw[Zth]
  have:s.data.toList.reverse.dropWhile ((ZcT++ZbY++[43,45]).contains ·)=[]:=by
   have h2:s.data.toList.reverse.all Zb9=true:=by rw[List.all_reverse];exact hall
   have h3:=(ZjZ (hdNo.nil Zb9) h2).2
   rw[List.append_nil]at h3
   refine Eq.trans ?_ h3
   exact congrArg (fun f=>s.data.toList.reverse.dropWhile f) (funext ZpM)
  rw[this]
  rfl
 have:=ZbF (Any.strings_Trim_laid ZyO (by kernel_rfl) s ZeL w (by omega) (by decide) (ascii_of_all (by decide)))
 rw[he]at this
 exact this
theorem Zp2 (b:UInt8)(h:Zb9 b=true):b.toNat<128/\decide (0<=indexByte ZeL.data.toList b.toNat.toUInt8)=true:=by
 have h1:=Zc7 (fun b => !Zb9 b||(decide (b.toNat<128)&&decide (0<=indexByte ZeL.data.toList b.toNat.toUInt8))) (fun _=>true) (by decide +kernel) b
 rw[h,Bool.not_true,Bool.false_or,Bool.and_eq_true,decide_eq_true_eq]at h1
 exact h1
theorem Zwv (c:Nat)(b:UInt8)(hb:b.toNat=c)(h:Zb9 b=true)(w:World):Does Tryz.prog 75 [.int .i32 c] w (fun v O=>v = .bool false/\O=[]):=by
 obtain⟨hc,hi⟩:=Zp2 b h
 rw[hb]at hc hi
 have c1:∀ w',Does Tryz.prog 116 [.string ZeL,.int .i32 c] w' (fun v O=>v = .bool true/\O=[]):=fun w'=>by
  have:=ZbF ((Any.strings_ContainsRune_ascii ZBx ZeL c w' (by omega) (by omega)).mono fun e w2 ⟨he,hw⟩=>⟨he,hw▸Below.refl _ _⟩)
  rw[show((c:Int)).toNat.toUInt8=c.toUInt8 from rfl,hi]at this
  exact this
 refine Zaa Tryz.func75 rfl rfl rfl rfl ?_
 repeat (first|(refine js ?_;(refine Zac (fun w' _=>c1 w') ?_))|refine walk ?_)
 exact rtA
theorem Ztc (b:UInt8)(h:Zb9 b=true)(w:World):Calls Tryz.prog 75 #[.int .i32 (b.toNat:Int)] w fun e w'=>e = .returned (.bool false)/\Below w.heap.size w w':=by
 have:=Zwv b.toNat b rfl h w
 unfold Does at this
 exact this.mono fun e w' ⟨v,O,he,hb,_,hv,_⟩=>⟨by rw[he,hv],hb.toBelow⟩
theorem Zti {s:ByteArray}(hs:s.data.toList.all Zb9=true){pos:Nat}(hp:pos<s.size):∃ b:UInt8,Zb9 b=true/\Utf8.decode s pos=(b.toNat,1):=by
 have hp':pos<s.data.toList.length:=by simpa using hp
 have hg:s.get! pos=s.data.toList[pos]:=by
  rw[Array.getElem_toList]
  show s.data[pos]! = _
  rw[getElem!_pos s.data pos (by simpa using hp')]
 have hn:=List.all_eq_true.1 hs _ (List.getElem_mem hp')
 generalize s.data.toList[pos]=b at *
 refine⟨b,hn,?_⟩
 have hc:=(Zp2 b hn).1
 unfold Utf8.decode
 simp only[Nat.add_zero,hg]
 rw[if_pos hc]
set_option maxHeartbeats 2000000 in
set_option maxRecDepth 1000000 in
theorem Zzd (s:ByteArray)(hs:s.data.toList.all Zb9=true)(w:World) :
  Calls Tryz.prog 160 #[.string s,.func (.func 75) #[] #[],.bool true] w fun e w'=>e = .returned (.int .i64 (-1))/\Below w.heap.size w w':=by
 go_enter Tryz.func160,Tryz.ntmps160
 go_wp2
 go_loopg [] s.size (fun gf wx=>∃ pos:Nat,wx.heap[w.heap.size]?=some (.stringIter s pos)/\Below w.heap.size w wx/\s.size<=pos+gf)
 case atStart=>exact⟨0,World.iter_heap w s 0,(Below.refl _ w).alloc (Nat.le_refl _) _,by omega⟩
 case round =>
  obtain⟨pos,hit,hbw,hfu⟩:=hrel
  by_cases hps:pos<s.size
  ·obtain⟨g',rfl⟩:∃ g',gk=g'+1:=⟨gk - 1,by omega⟩
   have hnx:∀ ty,(Instr.next (.pointer (some ⟨w.heap.size,0,none⟩)) true ty).run Tryz.prog wr=_:=fun ty=>Lib.run_next_any_at wr w.heap.size s pos ty hit hps
   obtain⟨b,hb,hd⟩:=Zti hs hps
   rw[hd]at hnx
   dsimp only at hnx
   have hit2:=Lib.iterAt_heap wr w.heap.size s pos (pos+1) hit
   have hbw2:=Lib.below_iterAt hbw (k:=w.heap.size) (Nat.le_refl _) s (pos+1)
   obtain⟨W1,hW1⟩:∃ W1,wr.iterAt w.heap.size s (pos+1)=W1:=⟨_,rfl⟩
   rw[hW1]at hnx hit2 hbw2
   have hlt1:w.heap.size<W1.heap.size:=(Array.getElem?_eq_some_iff.1 hit2).1
   have cS:=Ztc b hb W1
   go_wp2_with (go_at_call 75;refine cS.mono ?_;rintro e W' ⟨rfl,hbc⟩)
   go_roundg g'
   case measure=>omega
   case rel=>exact⟨pos+1,(hbc.block _ hlt1).trans hit2,hbw2.trans (hbc.mono hbw2.size),by omega⟩
  ·have hnx:∀ ty,(Instr.next (.pointer (some ⟨w.heap.size,0,none⟩)) true ty).run Tryz.prog wr=_:=fun ty=>Lib.run_next_end_at wr w.heap.size s pos ty hit hps
   go_wp2
   go_ret
   exact⟨rfl,hbw⟩
theorem Zrg (s:ByteArray)(hs:s.data.toList.all Zb9=true)(w:World):Does Tryz.prog 74 [.string s,.func (.func 75) #[] #[]] w (fun v O=>v = .bool false/\O=[]):=by
 have c1:=fun w'=>ZbF (Zzd s hs w')
 have c2:∀ w',Does Tryz.prog 115 [.string s,.func (.func 75) #[] #[]] w' (fun v O=>v = .int .i64 (-1)/\O=[]):=fun w'=>by
  refine Zaa Tryz.func115 rfl rfl rfl rfl ?_
  repeat (first|(refine js ?_;(refine Zac (fun w' _=>c1 w') ?_))|refine walk ?_)
  exact rtA
 refine Zaa Tryz.func74 rfl rfl rfl rfl ?_
 repeat (first|(refine js ?_;(refine Zac (fun w' _=>c2 w') ?_))|refine walk ?_)
 exact rtA
theorem Zir (s:ByteArray)(h:namP s=true)(w:World):Does Tryz.prog 38 [.string s] w (fun v O=>v = .bool true/\O=[]):=by
 have c1:=fun w'=>ZnZ s h w'
 unfold namP namL at h
 simp only[Bool.and_eq_true,decide_eq_true_eq]at h
 obtain⟨⟨h1,h2⟩,h3⟩:=h
 have c2:=fun w'=>Zrg s h3 w'
 have hs:s.size=s.data.toList.length:=by simp
 have b1:decide ((3:Int)<=s.size)=true:=decide_eq_true (by omega)
 have b2:decide ((s.size:Int)<=7)=true:=decide_eq_true (by omega)
 refine Zaa Tryz.func38 rfl rfl rfl rfl ?_
 repeat (first|(apply RL_pu;rfl;(first|(apply Zcr;rfl;rfl;exact b1)|(apply Zcg;rfl;rfl;exact b2)))|(refine js ?_;(first|(refine Zac (fun w' _=>c1 w') ?_)|(refine Zac (fun w' _=>c2 w') ?_)))|refine walk1 ?_)
 exact rtA
theorem ZdB {x:Int}(h:offP x=true) : -89999<=x/\x<=89999:=by
 unfold offP at h
 simpa using h
theorem Zmf (w:World):Does Tryz.prog 38 [.string ByteArray.empty] w (fun v O=>v = .bool false/\O=[]):=by
 refine Zaa Tryz.func38 rfl rfl rfl rfl ?_
 repeat (first|refine und ?_|(apply RL_pu;rfl;(apply Zcr;rfl;rfl;rfl))|refine walk1 ?_)
 exact rtA
theorem Zfb (p:ZaQ)(hp:PxOk p)(w:World):Does Tryz.prog 12 [.agg p.enc.toArray] w (fun v O=>v = .int .i64 0/\O=[]):=by
 obtain⟨h1,h2,h3⟩:=hp
 have c1:=fun w'=>Zir p.std h1 w'
 have c2:=fun w'=>Zle p.stdOff (-89999) 89999 (ZdB h2) w'
 by_cases hn:p=⟨p.std,p.stdOff,ByteArray.empty,0,dt0,dt0⟩
 ·have c3:=fun w'=>Zmf w'
  generalize p.std=s at *
  generalize p.stdOff=o at *
  subst hn
  clear h1 h2 h3
  show Does _ _ [.agg #[.string s,.int .i64 o,.string ByteArray.empty,.int .i64 0,.int .i64 0,.int .i64 0,.int .i64 0,.int .i64 0,.int .i64 0,.int .i64 0,.int .i64 0,.int .i64 0,.int .i64 0,.int .i64 0]] w _
  refine Zaa Tryz.func12 rfl rfl rfl rfl ?_
  repeat (first|refine und ?_|(apply RL_pu;rfl;(apply Zjx (i:=(⟨s,o,ByteArray.empty,0,dt0,dt0⟩:ZaQ)) (j:=⟨s,o,ByteArray.empty,0,dt0,dt0⟩) (enc:=ZaQ.enc);rfl;rfl;exact decide_eq_true rfl))|(refine js ?_;(first|(refine Zac (fun w' _=>c1 w') ?_)|(refine Zac (fun w' _=>c2 w') ?_)|(refine Zac (fun w' _=>c3 w') ?_)|(refine bx ?_;intro bk)))|refine walk1 ?_)
  exact rtA
 ·obtain⟨a1,a2,a3,a4⟩:=h3.resolve_left hn
  have c3:=fun w'=>Zir p.dst a1 w'
  have c4:=fun w'=>Zle p.dstOff (-89999) 89999 (ZdB a2) w'
  have c5:=fun w'=>Zis p.start a3 w'
  have c6:=fun w'=>Zis p.fin a4 w'
  have hb:decide (p=⟨p.std,p.stdOff,ByteArray.empty,0,dt0,dt0⟩)=false:=decide_eq_false hn
  clear h1 h2 h3 hn a1 a2 a3 a4
  obtain⟨p1,p2,p3,p4,⟨p5,p6,p7,p8,p9⟩,⟨q1,q2,q3,q4,q5⟩⟩:=p
  dsimp only at *
  show Does _ _ [.agg #[.string p1,.int .i64 p2,.string p3,.int .i64 p4,.int .i64 p5,.int .i64 p6,.int .i64 p7,.int .i64 p8,.int .i64 p9,.int .i64 q1,.int .i64 q2,.int .i64 q3,.int .i64 q4,.int .i64 q5]] w _
  refine Zaa Tryz.func12 rfl rfl rfl rfl ?_
  repeat (first|refine und ?_|(apply RL_pu;rfl;(apply Zjx (i:=(⟨p1,p2,p3,p4,⟨p5,p6,p7,p8,p9⟩,⟨q1,q2,q3,q4,q5⟩⟩:ZaQ)) (j:=⟨p1,p2,ByteArray.empty,0,dt0,dt0⟩) (enc:=ZaQ.enc);rfl;rfl;exact hb))|(refine js ?_;(first|(refine Zac (fun w' _=>c1 w') ?_)|(refine Zac (fun w' _=>c2 w') ?_)|(refine Zac (fun w' _=>c3 w') ?_)|(refine Zac (fun w' _=>c4 w') ?_)|(refine Zac (fun w' _=>c5 w') ?_)|(refine Zac (fun w' _=>c6 w') ?_)|(refine bx ?_;intro bk)))|refine walk1 ?_)
  exact rtA
theorem ZyL {t:Int}(ht : -36028797018963968<=t/\t<=36028797018963968) : -1900000000<=ZaA t/\ZaA t<=1900000000:=by
 obtain⟨a,b⟩:=ZgW (t:=t) (by omega) (by omega)
 unfold jan1 at a b
 omega
structure PxG where
 k:Nat
 y:Int
 a:Int
 b:Bool
structure PxI where
 j:Nat
 a:Int
 b:Bool
theorem Zjz {G:Prop}(h:G:=by(apply ZcQ;rfl;rfl;(constructor <;> omega))):G:=h
theorem ZnK {G:Prop}(h:G:=by(first|exact Zjz|(apply Zcg;rfl;rfl;exact n1)|(apply ZbW;rfl;rfl;exact n2))):G:=h
theorem ZuN {G:Prop}(h:G:=by first|(apply Qy_y;rfl;exact ZnK)|exact QyA):G:=h
theorem ZuX {G:Prop}(h:G:=by repeat (first|exact QF.nil|(apply QF.mk;rfl;rfl;decide +kernel;exact ZuN))):G:=h
theorem Zyu {G:Prop}(h:G:=by(first|exact Zjz|(apply Zcg;rfl;rfl;exact n1))):G:=h
theorem Zsk {G G':Prop}(k:G')(h:Hold G'->G:=by intro k9;(first|refine und ?_|(apply RL_pu;rfl;exact Zyu)|(apply RD_Q;rfl;rfl;decide +kernel;rfl;rfl;exact QyPxC2)|refine walk1 ?_|(refine jn ?_;(try intro F);(first|(refine stA ?_)|(apply Zae;first|exact Zyu|exact PuA));first|refine⟨_,EndsA,QFPxC2,?_⟩|refine fin ?_));exact k9.out):G:=h ⟨k⟩
theorem ZkO {G:Prop}(h:G:=by(first|exact Zjz|(apply Pu_indexAddrK;rfl;rfl;rfl;decide;decide;decide)|(apply Zjw;rfl;(focus repeat' constructor);rfl;rfl)|(apply Zcg;rfl;rfl;exact n3))):G:=h
theorem ZpD {G G':Prop}(k:G')(h:Hold G'->G:=by intro k9;(first|refine und ?_|(apply RL_pu;rfl;exact ZkO)|(apply RD_Q;rfl;rfl;decide +kernel;rfl;rfl;exact QyPxC3)|refine walk1 ?_|(refine jg ?_;(try intro F);(first|(refine Zac (fun w' _=>cl w') ?_)|(refine stA ?_));first|refine⟨_,EndsA,QFPxC3,?_⟩|refine fin ?_)|(refine jn ?_;(try intro F);(first|(refine stA ?_)|(apply Zae;first|exact ZkO|exact PuA));first|refine⟨_,EndsA,QFPxC3,?_⟩|refine fin ?_));exact k9.out):G:=h ⟨k⟩
set_option maxHeartbeats 8000000 in
theorem ZsR (p:ZaQ)(t:Int)(hp:PxOk p)(ht:tOk t=true)(w:World)(hL:LibW w)(hG:Glob w) :
  Does Tryz.prog 10 [.agg p.enc.toArray,.int .i64 t] w (fun v O=>v = .tuple #[.agg (pxAt p t).enc.toArray,.int .i64 0]/\O=[]):=by
 have htb:=Zih.1 ht
 have c1:=fun w' (hw:Bel w.heap.size w w')=>Zfb p hp w'
 have c2:=fun w'=>Zle t (-36028797018963968) 36028797018963968 htb w'
 have c3:=fun w' (hw:Bel w.heap.size w w')=>Zh8 t (by omega) w' (hG.up hw)
 have hyb:=ZyL htb
 obtain⟨res,hres⟩:∃ res,(!decide (p.dst=ByteArray.empty)&&(ZcO p t).2)=res:=⟨_,rfl⟩
 have e:pxAt p t=if res then ⟨p.dstOff,true,p.dst⟩ else ⟨p.stdOff,false,p.std⟩:=by
  rw[<- hres]
  unfold pxAt
  by_cases h:p.dst=ByteArray.empty
  ·rw[decide_eq_true h,if_neg (fun hh=>hh.1 h)]
   rfl
  ·rw[decide_eq_false h]
   cases (ZcO p t).2 with
   | true=>rw[if_pos ⟨h,rfl⟩];rfl
   | false=>rw[if_neg (by rintro⟨_,hh⟩;cases hh)];rfl
 rw[e]
 have hin:∀ y,-2000000000<=y->y<=2000000000->inY y=true:=fun y a b=>by unfold inY;rw[decide_eq_true a,decide_eq_true b];rfl
 -- the beginnings
 obtain⟨L,hLs⟩:∃ L:Int × Bool,ZcO p t=L:=⟨_,rfl⟩
 have hfold:(Zgi p (ZaA t - 2) 5).foldl (ZaX t) (-4611686018427387904,false)=L:=hLs
 rw[hLs]at hres
 have hdst:p.dst≠ByteArray.empty->(offP p.stdOff=true/\offP p.dstOff=true)/\datP p.start=true/\datP p.fin=true:=fun h=>by
  rcases hp.dst with h2|⟨_,h3,h4,h5⟩
  ·rw[h2]at h
   exact absurd rfl h
  ·exact⟨⟨hp.so,h3⟩,h4,h5⟩
 have hbg:∀ y,Zq9 p y=[(86400*Zby p.start y+p.start.sec - p.stdOff,true),(86400*Zby p.fin y+p.fin.sec - p.dstOff,false)]:=fun y=>rfl
 have hds:∀ y,datP p.start=true->inY y=true->∀ w',Bel w.heap.size w w'->Does Tryz.prog 29 [.agg p.start.enc.toArray,.int .i64 y] w' (fun v O=>v = .int .i64 (Zby p.start y)/\O=[]):=fun y h hy w' hw=>Zj4 p.start y h hy w' (hG.up hw)
 have hdf:∀ y,datP p.fin=true->inY y=true->∀ w',Bel w.heap.size w w'->Does Tryz.prog 29 [.agg p.fin.enc.toArray,.int .i64 y] w' (fun v O=>v = .int .i64 (Zby p.fin y)/\O=[]):=fun y h hy w' hw=>Zj4 p.fin y h hy w' (hG.up hw)
 have hbs:=fun y (h:datP p.start=true) hy=>ZpT p.start y h hy
 have hbf:=fun y (h:datP p.fin=true) hy=>ZpT p.fin y h hy
 obtain⟨Y,hY⟩:∃ Y,ZaA t=Y:=⟨_,rfl⟩
 rw[hY]at c3 hyb hfold
 clear hL hG hp e hLs
 obtain⟨p1,p2,p3,p4,⟨p5,p6,p7,p8,p9⟩,⟨q1,q2,q3,q4,q5⟩⟩:=p
 dsimp only at *
 show Does _ _ [.agg #[.string p1,.int .i64 p2,.string p3,.int .i64 p4,.int .i64 p5,.int .i64 p6,.int .i64 p7,.int .i64 p8,.int .i64 p9,.int .i64 q1,.int .i64 q2,.int .i64 q3,.int .i64 q4,.int .i64 q5],.int .i64 t] w _
 refine Zaa Tryz.func10 rfl rfl rfl rfl ?_
 repeat (first|(apply RL_pu;rfl;exact Zjz)|(apply RD_Q;rfl;rfl;decide +kernel;rfl;rfl;exact QyPxC0)|refine walk1 ?_|(refine jg ?_;(try intro F);(first|(refine Zac c1 ?_)|(refine Zac (fun w' _=>c2 w') ?_)|(refine Zac c3 ?_)|(refine bx ?_;intro bk)|(refine stA ?_));first|refine⟨_,EndsA,QFPxC0,?_⟩|refine fin ?_)|(refine jn ?_;(try intro F);(first|(refine bx ?_;intro bk)|(refine stA ?_)|(apply Zae;first|exact Zjz|exact PuA));first|refine⟨_,EndsA,QFPxC0,?_⟩|refine fin ?_)|(apply RD_W;rfl;intro bk))
 rename_i b2 b4
 generalize bk=b6
 refine Zao [(1,.int .i64 t),(2,.pointer (some ⟨b2,0,none⟩)),(4,.pointer (some ⟨b4,0,none⟩)),(6,.pointer (some ⟨b6,0,none⟩)),(7,.int .i64 Y)] [.blk b2 [.string p1,.int .i64 p2,.string p3,.int .i64 p4,.int .i64 p5,.int .i64 p6,.int .i64 p7,.int .i64 p8,.int .i64 p9,.int .i64 q1,.int .i64 q2,.int .i64 q3,.int .i64 q4,.int .i64 q5] 41,.blk b4 [.int .i64 0,.bool false,.string ByteArray.empty] 45]
  (fun g:PxG=>[(8,.int .i64 g.y)]) (fun g=>[.blk b6 [.int .i64 g.a,.bool g.b] 100]) (fun g=>g.k<=5/\g.y=Y - 2+(g.k:Nat)/\(p3=ByteArray.empty->g.b=false)/\(p3≠ByteArray.empty->(Zgi ⟨p1,p2,p3,p4,⟨p5,p6,p7,p8,p9⟩,⟨q1,q2,q3,q4,q5⟩⟩ g.y (5 - g.k)).foldl (ZaX t) (g.a,g.b)=L)) (fun g=>5 - g.k) ⟨0,Y - 2,-4611686018427387904,false⟩ SFA SOA ⟨Nat.zero_le _,by dsimp only;omega,fun _=>rfl,fun _=>hfold⟩ ?_
 clear hfold
 rintro⟨k,y,a,b⟩ ⟨hk,hy,hi1,hi2⟩
 dsimp only at hk hy hi1 hi2 ⊢
 by_cases hd:p3=ByteArray.empty
 ·obtain rfl:=hi1 hd
  have hr0:res=false:=by rw[<- hres,decide_eq_true hd];rfl
  subst hr0
  have n2:(!decide (p3=ByteArray.empty))=false:=by rw[decide_eq_true hd];rfl
  by_cases h5:y<=Y+2
  ·have n1:decide (y<=Y+2)=true:=decide_eq_true h5
   repeat (first|refine und ?_|(apply RL_pu;rfl;exact ZnK)|(apply RD_Q;rfl;rfl;decide +kernel;rfl;rfl;exact ZuN)|refine walk1 ?_|(refine jn ?_;(try intro F);(first|(refine bx ?_;intro bk)|(refine stA ?_)|(apply Zae;first|exact ZnK|exact PuA));first|refine⟨_,EndsA,ZuX,?_⟩|refine fin ?_)|(apply RD_W;rfl;intro bk))
   exact rtC
  ·have n1:decide (y<=Y+2)=false:=decide_eq_false h5
   repeat (first|refine Zsk ?_|(refine jn ?_;(try intro F);(refine bx ?_;intro bk);first|refine⟨_,EndsA,QFPxC2,?_⟩|refine fin ?_)|(apply RD_W;rfl;intro bk))
   exact rtC
 have hi2:=hi2 hd
 have n2:(!decide (p3=ByteArray.empty))=true:=by rw[decide_eq_false hd];rfl
 by_cases h5:Y+2<y
 ·obtain rfl:k=5:=by omega
  rw[Nat.sub_self,Zgi,List.foldl_nil]at hi2
  have hr0:res=b:=by rw[<- hres,decide_eq_false hd,<- hi2];rfl
  subst hr0
  have n1:decide (y<=Y+2)=false:=decide_eq_false (by omega)
  cases res with
  | false =>
   repeat (first|refine Zsk ?_|(refine jn ?_;(try intro F);(refine bx ?_;intro bk);first|refine⟨_,EndsA,QFPxC2,?_⟩|refine fin ?_)|(apply RD_W;rfl;intro bk))
   exact rtC
  | true =>
   repeat (first|refine Zsk ?_|(refine jn ?_;(try intro F);(refine bx ?_;intro bk);first|refine⟨_,EndsA,QFPxC2,?_⟩|refine fin ?_)|(apply RD_W;rfl;intro bk))
   exact rtC
 have n1:decide (y<=Y+2)=true:=decide_eq_true (by omega)
 obtain⟨⟨o1,o2⟩,o3,o4⟩:=hdst hd
 have o1:=ZdB o1
 have o2:=ZdB o2
 have hyi:=hin y (by omega) (by omega)
 have c5:=hds y o3 hyi
 have c6:=hdf y o4 hyi
 have s1:=(Zb4 o3).1
 have s2:=(Zb4 o4).1
 have d1:=hbs y o3 hyi
 have d2:=hbf y o4 hyi
 rw[show 5 - k=(4 - k)+1 by omega,Zgi,List.foldl_append,hbg]at hi2
 dsimp only at o1 o2 s1 s2
 simp only[ZbI.enc]at c5 c6
 clear hds hdf hbs hbf hdst hres c1 c2 c3 hi1 o3 o4
 generalize Zby ⟨p5,p6,p7,p8,p9⟩ y=m1 at *
 generalize Zby ⟨q1,q2,q3,q4,q5⟩ y=m2 at *
 repeat (first|refine und ?_|(apply RL_pu;rfl;exact ZnK)|(apply RD_Q;rfl;rfl;decide +kernel;rfl;rfl;exact ZuN)|refine walk1 ?_|(refine jg ?_;(try intro F);(first|(refine Zac c5 ?_)|(refine Zac c6 ?_)|(refine bx ?_;intro bk)|(refine stA ?_));first|refine⟨_,EndsA,ZuX,?_⟩|refine fin ?_)|(refine jn ?_;(try intro F);(first|(refine bx ?_;intro bk)|(refine stA ?_)|(apply Zae;first|exact ZnK|exact PuA));first|refine⟨_,EndsA,ZuX,?_⟩|refine fin ?_)|(apply RD_W;rfl;intro bk))
 generalize 86400*m1+p9 - p2=A1 at *
 generalize 86400*m2+q5 - p4=A2 at *
 generalize bk=bl
 obtain⟨r2,hr2⟩:∃ r2,List.foldl (ZaX t) (a,b) [(A1,true),(A2,false)]=r2:=⟨_,rfl⟩
 rw[hr2]at hi2
 refine Zao [(1,.int .i64 t),(2,.pointer (some ⟨b2,0,none⟩)),(4,.pointer (some ⟨b4,0,none⟩)),(6,.pointer (some ⟨b6,0,none⟩)),(7,.int .i64 Y),(8,.int .i64 y),(63,.slice (some ⟨bl,0,none⟩) 2 2),(64,.int .i64 2)] [.blk b2 [.string p1,.int .i64 p2,.string p3,.int .i64 p4,.int .i64 p5,.int .i64 p6,.int .i64 p7,.int .i64 p8,.int .i64 p9,.int .i64 q1,.int .i64 q2,.int .i64 q3,.int .i64 q4,.int .i64 q5] 41,.blk b4 [.int .i64 0,.bool false,.string ByteArray.empty] 45,.blk bl [.int .i64 A1,.bool true,.int .i64 A2,.bool false] 100]
  (fun g:PxI=>[(65,.int .i64 g.j)]) (fun g=>[.blk b6 [.int .i64 g.a,.bool g.b] 100]) (fun g=>g.j<=2/\List.foldl (ZaX t) (g.a,g.b) ([(A1,true),(A2,false)].drop g.j)=r2) (fun g=>2 - g.j) ⟨0,a,b⟩ SFA SOA ⟨by dsimp only;omega,hr2⟩ ?_
 clear hr2 c5 c6
 rintro⟨j,a,b⟩ ⟨hj,hij⟩
 dsimp only at hj hij ⊢
 have hj3:j=0\/j=1\/j=2:=by omega
 rcases hj3 with rfl|rfl|rfl
 ·change List.foldl (ZaX t) (ZaX t (a,b) (A1,true)) [(A2,false)]=r2 at hij
  by_cases h6:A1<=t
  ·have n3:decide (A1<=t)=true:=decide_eq_true h6
   have cl:=fun w'=>Zkl A1 a true b w'
   cases hl:ZdA (A1,true) (a,b) with
   | true =>
    rw[hl]at cl
    rw[show ZaX t (a,b) (A1,true)=(A1,true) from if_pos ⟨h6,hl⟩]at hij
    repeat (first|refine ZpD ?_|(refine jg ?_;(try intro F);(refine bx ?_;intro bk);first|refine⟨_,EndsA,QFPxC3,?_⟩|refine fin ?_)|(refine jn ?_;(try intro F);(refine bx ?_;intro bk);first|refine⟨_,EndsA,QFPxC3,?_⟩|refine fin ?_)|(apply RD_W;rfl;intro bk))
    exact⟨⟨1,A1,true⟩,by dsimp only;omega,⟨by dsimp only;omega,hij⟩,SFA,SOA⟩
   | false =>
    rw[hl]at cl
    rw[show ZaX t (a,b) (A1,true)=(a,b) from if_neg (fun hh=>by rw[hl]at hh;cases hh.2)]at hij
    repeat (first|refine ZpD ?_|(refine jg ?_;(try intro F);(refine bx ?_;intro bk);first|refine⟨_,EndsA,QFPxC3,?_⟩|refine fin ?_)|(refine jn ?_;(try intro F);(refine bx ?_;intro bk);first|refine⟨_,EndsA,QFPxC3,?_⟩|refine fin ?_)|(apply RD_W;rfl;intro bk))
    exact⟨⟨1,a,b⟩,by dsimp only;omega,⟨by dsimp only;omega,hij⟩,SFA,SOA⟩
  ·have n3:decide (A1<=t)=false:=decide_eq_false h6
   rw[show ZaX t (a,b) (A1,true)=(a,b) from if_neg (fun hh=>h6 hh.1)]at hij
   repeat (first|refine und ?_|(apply RL_pu;rfl;exact ZkO)|(apply RD_Q;rfl;rfl;decide +kernel;rfl;rfl;exact QyPxC3)|refine walk1 ?_|(refine jn ?_;(try intro F);(first|(refine bx ?_;intro bk)|(refine stA ?_)|(apply Zae;first|exact ZkO|exact PuA));first|refine⟨_,EndsA,QFPxC3,?_⟩|refine fin ?_)|(apply RD_W;rfl;intro bk))
   exact⟨⟨1,a,b⟩,by dsimp only;omega,⟨by dsimp only;omega,hij⟩,SFA,SOA⟩
 ·change List.foldl (ZaX t) (ZaX t (a,b) (A2,false)) []=r2 at hij
  by_cases h6:A2<=t
  ·have n3:decide (A2<=t)=true:=decide_eq_true h6
   have cl:=fun w'=>Zkl A2 a false b w'
   cases hl:ZdA (A2,false) (a,b) with
   | true =>
    rw[hl]at cl
    rw[show ZaX t (a,b) (A2,false)=(A2,false) from if_pos ⟨h6,hl⟩]at hij
    repeat (first|refine ZpD ?_|(refine jg ?_;(try intro F);(refine bx ?_;intro bk);first|refine⟨_,EndsA,QFPxC3,?_⟩|refine fin ?_)|(refine jn ?_;(try intro F);(refine bx ?_;intro bk);first|refine⟨_,EndsA,QFPxC3,?_⟩|refine fin ?_)|(apply RD_W;rfl;intro bk))
    exact⟨⟨2,A2,false⟩,by dsimp only;omega,⟨by dsimp only;omega,hij⟩,SFA,SOA⟩
   | false =>
    rw[hl]at cl
    rw[show ZaX t (a,b) (A2,false)=(a,b) from if_neg (fun hh=>by rw[hl]at hh;cases hh.2)]at hij
    repeat (first|refine ZpD ?_|(refine jg ?_;(try intro F);(refine bx ?_;intro bk);first|refine⟨_,EndsA,QFPxC3,?_⟩|refine fin ?_)|(refine jn ?_;(try intro F);(refine bx ?_;intro bk);first|refine⟨_,EndsA,QFPxC3,?_⟩|refine fin ?_)|(apply RD_W;rfl;intro bk))
    exact⟨⟨2,a,b⟩,by dsimp only;omega,⟨by dsimp only;omega,hij⟩,SFA,SOA⟩
  ·have n3:decide (A2<=t)=false:=decide_eq_false h6
   rw[show ZaX t (a,b) (A2,false)=(a,b) from if_neg (fun hh=>h6 hh.1)]at hij
   repeat (first|refine und ?_|(apply RL_pu;rfl;exact ZkO)|(apply RD_Q;rfl;rfl;decide +kernel;rfl;rfl;exact QyPxC3)|refine walk1 ?_|(refine jn ?_;(try intro F);(first|(refine bx ?_;intro bk)|(refine stA ?_)|(apply Zae;first|exact ZkO|exact PuA));first|refine⟨_,EndsA,QFPxC3,?_⟩|refine fin ?_)|(apply RD_W;rfl;intro bk))
   exact⟨⟨2,a,b⟩,by dsimp only;omega,⟨by dsimp only;omega,hij⟩,SFA,SOA⟩
 ·change (a,b)=r2 at hij
  subst hij
  repeat (first|refine und ?_|(apply RL_pu;rfl;exact Zjz)|(apply RD_Q;rfl;rfl;decide +kernel;rfl;rfl;exact QyPxC0)|refine walk1 ?_|(refine jn ?_;(try intro F);(first|(refine bx ?_;intro bk)|(refine stA ?_)|(apply Zae;first|exact Zjz|exact PuA));first|refine⟨_,EndsA,QFPxC0,?_⟩|refine fin ?_)|(apply RD_W;rfl;intro bk))
  exact⟨⟨k+1,y+1,a,b⟩,by dsimp only;omega,⟨by dsimp only;omega,by dsimp only;omega,fun hh=>absurd hh hd,fun _=>by rw[show 5 - (k+1)=4 - k by omega];exact hi2⟩,SFA,SOA⟩
end Go.Proofs.YtdlmhmmhdbbliaaGreatDoor
