/- Texts of this seat's, what the claim needs of them. -/
import Derived.Test.YtlakomilichhnaaGreatDoorYOOr
import Derived.Test.YtlakomilichhnaaGreatDoorYOOe
import Derived.Test.YtlakomilichhnaaGreatDoorYOOc
namespace Go.Proofs.YtlakomilichhnaaGreatDoor
set_option maxHeartbeats 3200000
set_option maxRecDepth 100000
open Go.RowKit
open Go renaming Addr→Ao,Calls→Ac,World→A9,cell_later→A0,maxLen→Au,wpList_append_own→Ci
open Lib renaming hasPrefix→C7,hid→J,size_eq→Ak,toList_data→AA
open List renaming append_nil→AD,cons_append→CG,contains_iff_mem→ED,drop_eq_nil_of_le→AB,drop_zero→AM,getD_eq_getElem?_getD→Bc,getElem?_eq_getElem→A7,getElem?_eq_some_iff→Ai,getElem?_map→AE,isPrefixOf_iff_prefix→Be,length_append→Af,length_filter_le→Bo,length_map→At,map_cons→Cf,map_nil→Ee,mem_of_getElem?→Ag,sum_cons→N6,take_add_one→C8,take_length→Ap
open Nat renaming add_zero→Bs,le_refl→An,le_trans→AK,lt_or_ge→Cv,pow_le_pow_right→GB,zero_le→Ae,zero_mul→Ew
open Option renaming none→A4,some→A2
open Proofs.Tryz renaming prog→A3
open Rc renaming Fl→BS,FldA→AV,SubA→Ec,allV→BX,bys→Nu,fieldsP→Hp,firstNZ→FK,firstNZ_step→Hq,get→Ju,yearF→Jv,yearIn→Er
open RowKit renaming Below→A6,intOf→Ad
open Tx renaming newb→Aa,ret1→Av,retb→Ay,rets→F6,step→A8
namespace Rc
open Go.Lib
theorem joinTail_app (sep:By) (a b:List By):joinTail sep (a++b)=joinTail sep a++joinTail sep b:=by simp[joinTail]
theorem join_snoc (l:List By) (x sep:By):join (l++[x]) sep=if l=[] then x else join l sep++sep++x:=by
 cases l with
 | nil=>simp[join_cons,joinTail]
 | cons y r =>
  rw[CG,join_cons,join_cons,joinTail_app,if_neg (by simp)]
  simp[joinTail]
theorem join_app_le (a b:List By) (sep:By):(join a sep).length≤(join (a++b) sep).length:=by
 cases a with
 | nil=>simp[join_nil]
 | cons y r =>
  rw[CG,join_cons,join_cons,joinTail_app]
  simp only[Af]
  omega
theorem join_take_le (l:List By) (sep:By) (k:Nat):(join (l.take k) sep).length≤(join l sep).length:=by
 have:=join_app_le (l.take k) (l.drop k) sep
 rw[List.take_append_drop]at this
 exact this
theorem bys_take {xs:List ByteArray}{k:Nat}{x:ByteArray} (h:xs[k]?=A2 x):bys (xs.take (k+1))=bys (xs.take k)++[x.data.toList]:=by
 unfold bys
 rw[C8,h]
 simp
theorem take_map {xs:List ByteArray}{k:Nat}:bys (xs.take k)=(bys xs).take k:=by unfold bys;rw[List.map_take]
theorem take_nil_iff {α:Type}{xs:List α}{k:Nat} (h:k<xs.length):xs.take k=[]↔k=0:=by
 cases xs with
 | nil=>simp at h
 | cons x r=>cases k <;> simp
theorem has_none {codes:ByteArray}{x:UInt8} (h:∀ j,j<codes.size→codes.data.toList.getD j 0≠x):codes.data.toList.contains x=false:=by
 rw[Bool.eq_false_iff]
 intro h1
 rw[ED]at h1
 obtain⟨j,hj,e⟩:=List.mem_iff_getElem.1 h1
 refine h j (by rw[Ak];exact hj) ?_
 rw[Bc,A7 hj]
 exact e
theorem has_some {codes:ByteArray}{x:UInt8}{j:Nat} (hj:j<codes.size) (h:codes.data.toList.getD j 0=x):hasCode codes.data.toList x=true:=by
 unfold hasCode
 rw[Bool.or_eq_true,ED]
 refine .inr ?_
 have hj2:j<codes.data.toList.length:=by rw[← Ak];exact hj
 rw[← h,Bc,A7 hj2]
 exact List.getElem_mem _
theorem has_empty {codes:ByteArray}{x:UInt8} (h:codes.data.toList.contains x=false):hasCode codes.data.toList x=codes.toList.isEmpty:=by
 unfold hasCode
 rw[h,Bool.or_false,AA]
end Rc
theorem r01_Join_c (xs:List ByteArray) (a:Option Ao) (c:Nat) (sep:ByteArray) (w:A9) (h:SLA w a c xs) (hlen:(Lib.join (Nu xs) sep.data.toList).length≤1000000000) :
  Ac A3 248 #[.slice a xs.length c,.string sep] w fun e w'=>e=.returned (.string ⟨(Lib.join (Nu xs) sep.data.toList).toArray⟩)∧w=w':=by
 have hcap:=h.cap
 have hmx:Au=9223372036854775807:=rfl
 have hmax:=h.max
 have HLEN:=J hlen;clear hlen
 go_enter Tryz.func248,Tryz.ntmps248
 go_wp2
 go_loop [5,6] (fun v i=>∃ (k:Nat) (O:List UInt8),k≤xs.length∧i=.int .i64 k∧v=.string ⟨O.toArray⟩∧Hid (O=Lib.join (Nu (xs.take k)) sep.data.toList)∧O.length≤1000000000) (fun _ i=>xs.length - (Ad i).toNat)
 case atStart=>exact⟨0,[],Ae _,rfl,rfl,J rfl,by simp⟩
 case round =>
  obtain⟨k,O,hk,rfl,rfl,hO,hOl⟩:=hrel
  by_cases hlt:k<xs.length
  ·obtain⟨x,hx⟩:∃ x,xs[k]?=A2 x:=⟨_,A7 hlt⟩
   obtain⟨b,o,rfl,hbl,c0⟩:=h.get hx
   have hj:=Rc.join_snoc (Nu (xs.take k)) x.data.toList sep.data.toList
   rw[← Rc.bys_take hx,← hO.out]at hj
   have hjl:(Lib.join (Nu (xs.take (k+1))) sep.data.toList).length≤1000000000:=by
    rw[Rc.take_map]
    exact AK (Rc.join_take_le _ _ _) HLEN.out
   by_cases h0:k=0
   ·subst h0
    rw[Bs]at c0
    have hO0:O=[]:=by rw[hO.out];rfl
    subst hO0
    rw[if_pos (by rfl)]at hj
    rw[hj]at hjl
    have hxs:x.size≤1000000000:=by rw[Ak];exact hjl
    have HJ:=J hj;clear hj hx hO hjl
    obtain⟨a1,-⟩:=Tx.adds_ok A3 [x] (⟨#[]⟩:ByteArray) (by simp only[Cf,Ee,N6,List.sum_nil];rw[show (⟨#[]⟩:ByteArray).size=0 from rfl];omega)
    go_wp2
    go_round
    case rel=>exact⟨1,x.data.toList,by omega,by go_num,by simp[Tx.bcat],J HJ.out.symm,by rw[← Ak];exact hxs⟩
    case measure=>simp[Ad];omega
   ·rw[if_neg (fun e=>h0 ((Rc.take_nil_iff hlt).1 (by unfold Nu at e;exact List.map_eq_nil_iff.1 e)))]at hj
    rw[hj]at hjl
    have hjl2:O.length+sep.size+x.size≤1000000000:=by rw[Ak sep,Ak x];simpa [Nat.add_assoc] using hjl
    have HJ:=J hj;clear hj hx hO hjl
    have hkp:0<k:=by omega
    obtain⟨a1,a2,-⟩:=Tx.adds_ok A3 [sep,x] (⟨O.toArray⟩:ByteArray) (by simp only[Cf,Ee,N6,List.sum_nil,Tx.size_mk];omega)
    go_wp2
    go_round
    case rel=>exact⟨k+1,O++sep.data.toList++x.data.toList,by omega,by go_num,by simp[Tx.bcat],J HJ.out.symm,by simp only[Af];rw[← Ak,← Ak];omega⟩
    case measure=>simp[Ad];omega
  ·obtain rfl:k=xs.length:=by omega
   have hO2:=hO.out
   rw[Ap]at hO2
   have HO:=J hO2;clear hO2 hO
   go_wp2
   go_ret
   exact⟨F6 (by rw[HO.out]),rfl⟩
theorem r07_in_c (x:UInt8) (codes:ByteArray) (w:A9) (hs:codes.size≤9223372036854775000) :
  Ac A3 213 #[.int .u8 x.toNat,.string codes] w fun e w'=>e=.returned (.bool (Rc.hasCode codes.data.toList x))∧w=w':=by
 go_enter Tryz.func213,Tryz.ntmps213
 go_wp2
 go_loop [5] (fun i=>∃ (k:Nat),k≤codes.size∧i=.int .i64 k∧Hid (∀ j,j<k→codes.data.toList.getD j 0≠x)) (fun i=>codes.size - (Ad i).toNat)
 case atStart=>exact⟨0,Ae _,rfl,J (fun j hj=>absurd hj (by omega))⟩
 case round =>
  obtain⟨k,hk,rfl,hE⟩:=hrel
  by_cases hlt:k<codes.size
  ·obtain⟨y,hy⟩:∃ y,codes.data.toList.getD k 0=y:=⟨_,rfl⟩
   have e0:∀ h,codes[k]'h=y:=fun h=>by rw[← hy,Tx.getD_at codes k h]
   have hq:=Rc.u8_eq (a:=y) (b:=x)
   by_cases hyx:y=x
   ·have HH:=J (Rc.has_some hlt (hy.trans hyx))
    have hq2:(y == x)=true:=by simpa using hyx
    rw[hq2]at hq
    clear hy hyx hq2
    go_wp2
    go_ret
    exact⟨Ay HH.out.symm,rfl⟩
   ·have hE2:Hid (∀ j,j<k+1→codes.data.toList.getD j 0≠x):=J (fun j hj=>by
     rcases Cv j k with h1 | h1
     ·exact hE.out j h1
     ·obtain rfl:j=k:=by omega
      rw[hy];exact hyx)
    have hq2:(y == x)=false:=by simpa using hyx
    rw[hq2]at hq
    clear hy hyx hq2
    go_wp2
    go_round
    case rel=>exact⟨k+1,by omega,by go_num,hE2⟩
    case measure=>simp[Ad];omega
  ·obtain rfl:k=codes.size:=by omega
   have HH:=J (Rc.has_empty (Rc.has_none hE.out))
   go_wp2
   go_ret
   exact⟨Ay HH.out.symm,rfl⟩
theorem r07_All_c (f:BS) (a:Option Ao) (c:Nat) (codes:ByteArray) (w:A9) (h:Ec w a c f.subs) (hl:f.subs.length≤1000) (hs:codes.size≤1000) :
  Ac A3 142 #[.agg #[.string f.tag,.string f.ind,.slice a f.subs.length c,.int .i64 f.auth],.string codes] w fun e w'=>∃ va vc,e=.returned (.slice va (BX f.subs codes.data.toList).length vc)∧SLA w' va vc (BX f.subs codes.data.toList)∧A6 w.heap.size w w':=by
 obtain⟨i0,hi0,hz0,hz1,hz2⟩:=info_parts info_str
 obtain⟨W,hW⟩:∃ W,w.alloc (.cells #[.string f.tag,.string f.ind,.slice a f.subs.length c,.int .i64 f.auth] 84)=W:=⟨_,rfl⟩
 have hB:A6 w.heap.size w W:=by rw[← hW];exact Aa _ _
 have c2:W.cell? ⟨w.heap.size,2,A4⟩=A2 (.slice a f.subs.length c):=by rw[← hW];simp
 have hS:=h.below hB
 have hcap:=h.cap
 go_enter Tryz.func142,Tryz.ntmps142
 go_wp2
 clear hW
 go_loopw [5,6] (fun v i wr=>∃ (k:Nat) (L:List ByteArray),k≤f.subs.length∧i=.int .i64 k∧Hid (L=BX (f.subs.take k) codes.data.toList)∧L.length≤k∧wr.ownsRow W.heap.size 9 1 v L.length (L.map Value.string)∧A6 W.heap.size W wr) (fun _ i _=>f.subs.length - (Ad i).toNat)
 case atStart=>exact⟨0,[],Ae _,rfl,J rfl,An _,World.ownsRow_nil _ _ _ _,Below.refl _ _⟩
 case round =>
  obtain⟨k,L,hk,rfl,hL,hLk,hown,hb⟩:=hrel
  have hbs:=hb.size
  have hbw:=A8 hB hb
  replace c2:=A0 hb c2
  by_cases hlt:k<f.subs.length
  ·obtain⟨x,hx⟩:∃ x,f.subs[k]?=A2 x:=⟨_,A7 hlt⟩
   obtain⟨b,o,rfl,hbl,c0,c1⟩:=hS.get hx
   replace c0:=A0 hb c0
   replace c1:=A0 hb c1
   have hT:=Rc.allV_take codes.data.toList hx
   cases hH:Rc.hasCode codes.data.toList x.1 with
   | true =>
    rw[if_pos hH,← hL.out]at hT
    have HT:=J hT;clear hT
    have HH:=J hH;clear hH hx
    go_wp2_with (first
     |(go_at_call 213;refine (r07_in_c x.1 codes _ (by omega)).mono ?_;rintro e w1 ⟨rfl,rfl⟩;rw[HH.out])
     |(at_builtin;go_must (refine Ci _ rfl _ _ 26 rfl W.heap.size 9 i0 (.string ⟨#[]⟩) 1 16 Tryz.underlying26 hi0 hz0 hz1 hz2 rfl (by decide) _ L.length _ rfl (hown.alloc _) ⟨_,0,A4⟩ 1 1 [.string x.2] rfl rfl (Tx.cell_one_at _ _ (by first | rfl | simp) _ _) (by simp[Value.oneCell']) (by unfold Au;omega) (by omega) (by simp;omega) ?_);intro v' w2 hown2 hg2 hnil2))
    have hb2:A6 W.heap.size W w2:=(hb.alloc hbs _).grown hg2 (by simp;omega) (fun j hj=>(hown.lt j hj).1)
    go_roundw
    case rel=>exact⟨k+1,L++[x.2],by omega,by go_num,J HT.out.symm,by simp;omega,by simpa using hown2,hb2⟩
    case measure=>simp[Ad];omega
   | false =>
    rw[if_neg (by simp[hH]),AD,← hL.out]at hT
    have HT:=J hT;clear hT
    have HH:=J hH;clear hH hx
    go_wp2_with (go_at_call 213;refine (r07_in_c x.1 codes _ (by omega)).mono ?_;rintro e w1 ⟨rfl,rfl⟩;rw[HH.out])
    go_roundw
    case rel=>exact⟨k+1,L,by omega,by go_num,J HT.out.symm,by omega,hown,hb⟩
    case measure=>simp[Ad];omega
  ·obtain rfl:k=f.subs.length:=by omega
   have hL2:=hL.out
   rw[Rc.take_all]at hL2
   subst hL2
   obtain⟨va,vc,rfl,hsl⟩:=SLA.of_own hown rfl
   go_wp2
   go_ret
   exact⟨va,vc,rfl,hsl,hbw⟩
theorem r07_Plain_c (f:BS) (a:Option Ao) (c:Nat) (codes:ByteArray) (w:A9) (h:Ec w a c f.subs) (hg:Rc.Gd f) (hs:codes.size≤1000) :
  Ac A3 191 #[.agg #[.string f.tag,.string f.ind,.slice a f.subs.length c,.int .i64 f.auth],.string codes] w fun e w'=>e=.returned (.string ⟨(Rc.plain f.subs codes.data.toList).toArray⟩)∧A6 w.heap.size w w':=by
 have hlen:=hg.plain_le codes.data.toList
 obtain⟨W,hW⟩:∃ W,w.alloc (.cells #[.string f.tag,.string f.ind,.slice a f.subs.length c,.int .i64 f.auth] 84)=W:=⟨_,rfl⟩
 have hB:A6 w.heap.size w W:=by rw[← hW];exact Aa _ _
 have c0:W.cell? ⟨w.heap.size,0,A4⟩=A2 (.string f.tag):=by rw[← hW];simp
 have c1:W.cell? ⟨w.heap.size,1,A4⟩=A2 (.string f.ind):=by rw[← hW];simp
 have c2:W.cell? ⟨w.heap.size,2,A4⟩=A2 (.slice a f.subs.length c):=by rw[← hW];simp
 have c3:W.cell? ⟨w.heap.size,3,A4⟩=A2 (.int .i64 f.auth):=by rw[← hW];simp
 have h1:=h.below hB
 have HG:=J hg
 have HLEN:=J hlen;clear hlen
 go_enter Tryz.func191,Tryz.ntmps191
 go_wp2_with (first
  |(go_at_call 142;refine (r07_All_c f a c codes _ h1 HG.out.1 hs).mono ?_;rintro e w1 ⟨va,vc,rfl,hs1,hb1⟩)
  |(go_at_call 248;refine (r01_Join_c _ va vc ⟨#[32]⟩ _ hs1 (AK HLEN.out (by omega))).mono ?_;rintro e w2 ⟨rfl,rfl⟩))
 go_ret
 exact⟨rfl,A8 hB hb1⟩
theorem r07_Get_c (f:BS) (a:Option Ao) (c:Nat) (x:UInt8) (w:A9) (h:Ec w a c f.subs) :
  Ac A3 192 #[.agg #[.string f.tag,.string f.ind,.slice a f.subs.length c,.int .i64 f.auth],.int .u8 x.toNat] w fun e w'=>e=.returned (.tuple #[.string ((Ju f.subs x).getD ⟨#[]⟩),.bool (Ju f.subs x).isSome])∧A6 w.heap.size w w':=by
 obtain⟨W,hW⟩:∃ W,w.alloc (.cells #[.string f.tag,.string f.ind,.slice a f.subs.length c,.int .i64 f.auth] 84)=W:=⟨_,rfl⟩
 have hB:A6 w.heap.size w W:=by rw[← hW];exact Aa _ _
 have c2:W.cell? ⟨w.heap.size,2,A4⟩=A2 (.slice a f.subs.length c):=by rw[← hW];simp
 have h1:=h.below hB
 have hcap:=h.cap
 have hmx:Au=9223372036854775807:=rfl
 have hmax:=h.max
 go_enter Tryz.func192,Tryz.ntmps192
 go_wp2
 clear hW
 go_loop [6] (fun i=>∃ (k:Nat),k≤f.subs.length∧i=.int .i64 k∧Hid (Ju (f.subs.drop k) x=Ju f.subs x)) (fun i=>f.subs.length - (Ad i).toNat)
 case atStart=>exact⟨0,Ae _,rfl,J (by rw[AM])⟩
 case round =>
  obtain⟨k,hk,rfl,hE⟩:=hrel
  by_cases hlt:k<f.subs.length
  ·obtain⟨y,hy⟩:∃ y,f.subs[k]?=A2 y:=⟨_,A7 hlt⟩
   obtain⟨b,o,rfl,hbl,d0,d1⟩:=h1.get hy
   have hq:=Rc.u8_eq (a:=y.1) (b:=x)
   have hst:Ju (f.subs.drop k) x=if (y.1 == x)=true then A2 y.2 else Ju (f.subs.drop (k+1)) x:=by
    unfold Ju
    rw[List.drop_eq_getElem_cons hlt,(Ai.1 hy).2,List.find?_cons]
    cases y.1 == x <;> simp
   rw[hE.out]at hst
   cases hyx:(y.1 == x) with
   | true =>
    rw[if_pos hyx]at hst
    rw[hyx]at hq
    have HS:=J hst;clear hst hyx hy
    go_wp2
    go_ret2
    rw[HS.out]
    exact⟨rfl,hB⟩
   | false =>
    rw[if_neg (by simp[hyx])]at hst
    rw[hyx]at hq
    have HS:=J hst;clear hst hyx hy
    go_wp2
    go_round
    case rel=>exact⟨k+1,by omega,by go_num,J HS.out.symm⟩
    case measure=>simp[Ad];omega
  ·obtain rfl:k=f.subs.length:=by omega
   have hE2:Ju f.subs x=A4:=by rw[← hE.out,List.drop_length];rfl
   have HE:=J hE2;clear hE2 hE
   go_wp2
   go_ret2
   rw[HE.out]
   exact⟨rfl,hB⟩
namespace Rc
open Go.Lib
theorem pre_cut {s p:ByteArray} (_:p.size≤s.size):((s.extract 0 p.size).toList == p.toList)=hasPrefix s.data.toList p.data.toList:=by
 have e:(s.extract 0 p.size).toList=s.data.toList.take p.data.toList.length:=by
  rw[AA,← Ak]
  have:=Tx.extract_wid s 0 p.size
  rw[Nat.zero_add,AM]at this
  exact this
 rw[e,AA,Bool.eq_iff_iff,beq_iff_eq]
 unfold hasPrefix
 rw[Be,List.prefix_iff_eq_take]
 constructor
 ·intro h;exact h.symm
 ·intro h;exact h.symm
theorem pre_long {s p:ByteArray} (h:¬ p.size≤s.size):hasPrefix s.data.toList p.data.toList=false:=by
 rw[Bool.eq_false_iff]
 unfold hasPrefix
 rw[Ne,Be]
 intro h1
 have:=h1.length_le
 rw[← Ak,← Ak]at this
 omega
theorem fieldsP_take {fs:List Fl}{k:Nat}{f:Fl} (p:By) (h:fs[k]?=A2 f):fieldsP (fs.take (k+1)) p=fieldsP (fs.take k) p++(if hasPrefix f.tag.data.toList p=true then [f] else []):=by
 unfold fieldsP
 rw[C8,h,List.filter_append]
 congr 1
 cases hp:hasPrefix f.tag.data.toList p <;> simp[hp]
end Rc
theorem Begins_c (s p:ByteArray) (w:A9) :
  Ac A3 71 #[.string s,.string p] w fun e w'=>e=.returned (.bool (C7 s.data.toList p.data.toList))∧w=w':=by
 by_cases h:p.size≤s.size
 ·have hq:=Rc.pre_cut h
  have g:((p.size:Int))≤(s.size:Int):=by omega
  go_enter Tryz.func71,Tryz.ntmps71
  go_wp2
  go_ret
  exact⟨Ay (by first | exact hq | rfl),rfl⟩
 ·have HQ:=J (Rc.pre_long h)
  have g:((s.size:Int))<(p.size:Int):=by omega
  go_enter Tryz.func71,Tryz.ntmps71
  go_wp2
  go_ret
  exact⟨Ay HQ.out.symm,rfl⟩
theorem Fields_c (fs:List BS) (a:Option Ao) (c:Nat) (id ver kind:Int) (lang:ByteArray) (p:ByteArray) (w:A9) (h:AV w a c fs) (hn:fs.length≤1000000) :
  Ac A3 189 #[.agg #[.int .i64 id,.int .i64 ver,.int .i64 kind,.string lang,.slice a fs.length c],.string p] w fun e w'=>∃ va vc,e=.returned (.slice va (Hp fs p.data.toList).length vc)∧AV w' va vc (Hp fs p.data.toList)∧A6 w.heap.size w w':=by
 obtain⟨i0,hi0,hz0,hz1,hz2⟩:=info_parts info_fld
 obtain⟨W,hW⟩:∃ W,w.alloc (.cells #[.int .i64 id,.int .i64 ver,.int .i64 kind,.string lang,.slice a fs.length c] 51)=W:=⟨_,rfl⟩
 have hB:A6 w.heap.size w W:=by rw[← hW];exact Aa _ _
 have c4:W.cell? ⟨w.heap.size,4,A4⟩=A2 (.slice a fs.length c):=by rw[← hW];simp
 have hWs:w.heap.size<W.heap.size:=by rw[← hW];simp
 have hcap:=h.cap
 have hmx:Au=9223372036854775807:=rfl
 have hmax:=h.max
 go_enter Tryz.func189,Tryz.ntmps189
 go_wp2
 clear hW
 go_loopw [5,6] (fun v i wr=>∃ (k:Nat) (T:List Rc.FT),k≤fs.length∧i=.int .i64 k∧Hid (T.map (·.1)=Hp (fs.take k) p.data.toList)∧Hid (∀ t∈T,Ec w t.2.1 t.2.2 t.1.subs)∧T.length≤k∧wr.ownsRow W.heap.size 84 4 v T.length (T.flatMap Rc.encF)∧A6 W.heap.size W wr) (fun _ i _=>fs.length - (Ad i).toNat)
 case atStart=>exact⟨0,[],Ae _,rfl,J rfl,J (by simp),An _,World.ownsRow_lit (base:=W.heap.size) (e:=84) (size:=4) W #[] 0 (by simp) (by unfold Au;omega) rfl,Aa _ _⟩
 case round =>
  obtain⟨k,T,hk,rfl,hT,hTS,hTk,hown,hb⟩:=hrel
  have hbs:=hb.size
  have hbw:=A8 hB hb
  replace c4:=A0 hb c4
  by_cases hlt:k<fs.length
  ·obtain⟨f,hf⟩:∃ f,fs[k]?=A2 f:=⟨_,A7 hlt⟩
   obtain⟨b,o,sa,sc,rfl,hbl,d0,d1,d2,d3,hsub⟩:=h.get hf
   replace d0:=A0 hbw d0
   replace d1:=A0 hbw d1
   replace d2:=A0 hbw d2
   replace d3:=A0 hbw d3
   have hst:=Rc.fieldsP_take p.data.toList hf
   rw[← hT.out]at hst
   cases hp:C7 f.tag.data.toList p.data.toList with
   | true =>
    rw[if_pos hp]at hst
    have hT2:Hid ((T++[(f,sa,sc)]).map (·.1)=Hp (fs.take (k+1)) p.data.toList):=J (by rw[List.map_append];exact hst.symm)
    have hTS2:Hid (∀ t∈T++[(f,sa,sc)],Ec w t.2.1 t.2.2 t.1.subs):=J (fun t ht=>by
     rcases List.mem_append.1 ht with h9 | h9
     ·exact hTS.out t h9
     ·simp at h9;subst h9;exact hsub)
    have HP:=J hp;clear hp hst hf
    go_wp2_with (first
     |(go_at_call 71;refine (Begins_c f.tag p _).mono ?_;rintro e w1 ⟨rfl,rfl⟩;rw[HP.out])
     |(at_builtin;go_must (refine Ci _ rfl _ _ 49 rfl W.heap.size 84 i0 _ 4 64 Tryz.underlying49 hi0 hz0 hz1 hz2 rfl (by decide) _ T.length _ rfl (hown.alloc _) ⟨_,0,A4⟩ 1 1 (Rc.encF (f,sa,sc)) rfl rfl (Rc.f_new _ _ (by first | rfl | simp) f sa sc _) (Rc.f_one _) (by unfold Au;omega) (by omega) (by simp;omega) ?_);intro v' w2 hown2 hg2 hnil2))
    have hb2:A6 W.heap.size W w2:=(hb.alloc hbs _).grown hg2 (by simp;omega) (fun j hj=>(hown.lt j hj).1)
    go_roundw
    case rel=>exact⟨k+1,T++[(f,sa,sc)],by omega,by go_num,hT2,hTS2,by simp;omega,by simpa using hown2,hb2⟩
    case measure=>simp[Ad];omega
   | false =>
    rw[if_neg (by simp[hp]),AD]at hst
    have HP:=J hp;clear hp hf
    have HS:=J hst;clear hst
    go_wp2_with (go_at_call 71;refine (Begins_c f.tag p _).mono ?_;rintro e w1 ⟨rfl,rfl⟩;rw[HP.out])
    go_roundw
    case rel=>exact⟨k+1,T,by omega,by go_num,J HS.out.symm,hTS,by omega,hown,hb⟩
    case measure=>simp[Ad];omega
  ·obtain rfl:k=fs.length:=by omega
   have hT9:=hT.out
   rw[Ap]at hT9
   obtain⟨va,vc,rfl,hF⟩:=Rc.FldA.of_own hown rfl (fun t ht=>(hTS.out t ht).below hbw)
   rw[hT9]at hF ⊢
   clear hT hT9 hTS
   go_wp2
   go_ret
   exact⟨va,vc,rfl,hF,hbw⟩
namespace Rc
theorem head_at {α:Type}{l:List α}:l.head?=l[0]?:=by cases l <;> rfl
theorem titleR_le {fs:List Fl} (h:∀ f∈fs,Gd f) {f:Fl} (hf:(fieldsP fs [50,52,53])[0]?=A2 f):Gd f:=h f (List.mem_filter.1 (show f∈fs.filter _ from Ag hf)).1
theorem titleR_none {fs:List Fl} (h:(fieldsP fs [50,52,53])[0]?=A4):titleR fs=[]:=by unfold titleR;rw[head_at,h]
theorem titleR_some {fs:List Fl}{f:Fl} (h:(fieldsP fs [50,52,53])[0]?=A2 f):titleR fs=Tx.clean (plain f.subs [97,98]):=by unfold titleR;rw[head_at,h]
end Rc
theorem r08_Title_c (fs:List BS) (a:Option Ao) (c:Nat) (id ver kind:Int) (lang:ByteArray) (w:A9) (h:AV w a c fs) (hg:∀ f∈fs,Rc.Gd f) (hn:fs.length≤1000000) :
  Ac A3 111 #[.agg #[.int .i64 id,.int .i64 ver,.int .i64 kind,.string lang,.slice a fs.length c]] w fun e w'=>e=.returned (.string ⟨(Rc.titleR fs).toArray⟩)∧A6 w.heap.size w w':=by
 obtain⟨W,hW⟩:∃ W,w.alloc (.cells #[.int .i64 id,.int .i64 ver,.int .i64 kind,.string lang,.slice a fs.length c] 51)=W:=⟨_,rfl⟩
 have hB:A6 w.heap.size w W:=by rw[← hW];exact Aa _ _
 have c0:W.cell? ⟨w.heap.size,0,A4⟩=A2 (.int .i64 id):=by rw[← hW];simp
 have c1:W.cell? ⟨w.heap.size,1,A4⟩=A2 (.int .i64 ver):=by rw[← hW];simp
 have c2:W.cell? ⟨w.heap.size,2,A4⟩=A2 (.int .i64 kind):=by rw[← hW];simp
 have c3:W.cell? ⟨w.heap.size,3,A4⟩=A2 (.string lang):=by rw[← hW];simp
 have c4:W.cell? ⟨w.heap.size,4,A4⟩=A2 (.slice a fs.length c):=by rw[← hW];simp
 have h1:=h.below hB
 have hmx:Au=9223372036854775807:=rfl
 obtain⟨L,hL⟩:∃ L,Hp fs [50,52,53]=L:=⟨_,rfl⟩
 cases h0:L[0]? with
 | none =>
  have HT:=J (Rc.titleR_none (fs:=fs) (by rw[hL];exact h0))
  have hl0:L=[]:=by cases L with | nil=>rfl | cons x r=>simp at h0
  have HL0:=J hl0;clear hl0
  have HL:=J hL;clear hL h0
  go_enter Tryz.func111,Tryz.ntmps111
  go_wp2_with (go_at_call 189;refine (Fields_c fs a c id ver kind lang ⟨#[50,52,53]⟩ _ h1 hn).mono ?_;rintro e w1 ⟨va,vc,rfl,hF,hb1⟩;rw[show Hp fs (⟨#[50,52,53]⟩:ByteArray).data.toList=[] from HL.out.trans HL0.out]at hF ⊢)
  go_ret
  exact⟨F6 (by rw[HT.out]),A8 hB hb1⟩
 | some f =>
  have HT:=J (Rc.titleR_some (fs:=fs) (f:=f) (by rw[hL];exact h0))
  have HG:=J (Rc.titleR_le hg (f:=f) (by rw[hL];exact h0))
  have hl0:0<L.length:=(Ai.1 h0).1
  have hll:L.length≤fs.length:=by rw[← hL];exact Bo _ _
  have hpl:=HG.out.plain_le [97,98]
  have HL:=J hL;clear hL
  have H0:=J h0;clear h0
  go_enter Tryz.func111,Tryz.ntmps111
  go_wp2_with (first
   |(go_at_call 189;refine (Fields_c fs a c id ver kind lang ⟨#[50,52,53]⟩ _ h1 hn).mono ?_;rintro e w1 ⟨va,vc,rfl,hF,hb1⟩;rw[show Hp fs (⟨#[50,52,53]⟩:ByteArray).data.toList=L from HL.out]at hF ⊢;obtain⟨b,o,sa,sc,rfl,hbl,d0,d1,d2,d3,hsub⟩:=hF.get H0.out;rw[Ew,Bs]at d0 d1 d2 d3)
   |(go_at_call 191;refine (r07_Plain_c f sa sc ⟨#[97,98]⟩ _ hsub HG.out (by decide)).mono ?_;rintro e w2 ⟨rfl,hb2⟩)
   |(go_at_call 190;refine (r01_Clean_c _ _ (by rw[Tx.size_mk];exact AK hpl (by omega))).mono ?_;rintro e w3 ⟨rfl,hb3⟩))
  go_ret
  exact⟨F6 (by rw[HT.out]),A8 (A8 (A8 hB hb1) hb2) hb3⟩
namespace Rc
open Go.Lib
theorem authorR_step (fs:List Fl) (t:By) (ts:List By):authorR fs (t::ts)=match (fieldsP fs t)[0]? with
  | none=>authorR fs ts
  | some f=>match get f.subs 97 with
   | some v=>v.data.toList
   | none=>authorR fs ts:=by rw[authorR,head_at];cases (fieldsP fs t)[0]? <;> rfl
theorem authorR_none {fs:List Fl}{t:By}{ts:List By} (h:(fieldsP fs t)[0]?=A4):authorR fs (t::ts)=authorR fs ts:=by rw[authorR_step,h]
theorem authorR_no {fs:List Fl}{t:By}{ts:List By}{f:Fl} (h:(fieldsP fs t)[0]?=A2 f) (hg:get f.subs 97=A4):authorR fs (t::ts)=authorR fs ts:=by rw[authorR_step,h];simp only[hg]
theorem authorR_yes {fs:List Fl}{t:By}{ts:List By}{f:Fl}{v:ByteArray} (h:(fieldsP fs t)[0]?=A2 f) (hg:get f.subs 97=A2 v):authorR fs (t::ts)=v.data.toList:=by rw[authorR_step,h];simp only[hg]
theorem tags3_at {k:Nat} (h:k<3):∃ x y z:UInt8,tags3[k]?=A2 [x,y,z]∧tags3.drop k=[x,y,z]::tags3.drop (k+1)∧(#[Value.string ⟨#[49,48,48]⟩,.string ⟨#[49,49,48]⟩,.string ⟨#[55,48,48]⟩]:Array Value)[k]?=A2 (.string ⟨#[x,y,z]⟩):=by
 match k,h with
 | 0,_=>exact⟨49,48,48,rfl,rfl,rfl⟩
 | 1,_=>exact⟨49,49,48,rfl,rfl,rfl⟩
 | 2,_=>exact⟨55,48,48,rfl,rfl,rfl⟩
end Rc
theorem r08_Author_c (fs:List BS) (a:Option Ao) (c:Nat) (id ver kind:Int) (lang:ByteArray) (w:A9) (h:AV w a c fs) (hn:fs.length≤1000000) :
  Ac A3 112 #[.agg #[.int .i64 id,.int .i64 ver,.int .i64 kind,.string lang,.slice a fs.length c]] w fun e w'=>e=.returned (.string ⟨(Rc.authorR fs Rc.tags3).toArray⟩)∧A6 w.heap.size w w':=by
 obtain⟨W,hW⟩:∃ W,(w.alloc (.cells #[.int .i64 id,.int .i64 ver,.int .i64 kind,.string lang,.slice a fs.length c] 51)).alloc (.cells #[.string ⟨#[49,48,48]⟩,.string ⟨#[49,49,48]⟩,.string ⟨#[55,48,48]⟩] 9)=W:=⟨_,rfl⟩
 have hB:A6 w.heap.size w W:=by rw[← hW];exact (Aa _ _).alloc (Aa w _).size _
 have c0:W.cell? ⟨w.heap.size,0,A4⟩=A2 (.int .i64 id):=by rw[← hW];simp
 have c1:W.cell? ⟨w.heap.size,1,A4⟩=A2 (.int .i64 ver):=by rw[← hW];simp
 have c2:W.cell? ⟨w.heap.size,2,A4⟩=A2 (.int .i64 kind):=by rw[← hW];simp
 have c3:W.cell? ⟨w.heap.size,3,A4⟩=A2 (.string lang):=by rw[← hW];simp
 have c4:W.cell? ⟨w.heap.size,4,A4⟩=A2 (.slice a fs.length c):=by rw[← hW];simp
 have ct:∀ k,W.cell? ⟨w.heap.size+1,k,A4⟩=(#[Value.string ⟨#[49,48,48]⟩,.string ⟨#[49,49,48]⟩,.string ⟨#[55,48,48]⟩]:Array Value)[k]?:=fun k=>by
  rw[← hW]
  simp
 have hS:=h.below hB
 have hmx:Au=9223372036854775807:=rfl
 have hws:w.heap.size+1<W.heap.size:=by rw[← hW];simp
 have HCT:=J ct;clear ct
 go_enter Tryz.func112,Tryz.ntmps112
 go_wp2
 clear hW
 go_loopw [4,5,6,7] (fun i _ _ _ wr=>∃ (k:Nat),k≤3∧i=.int .i64 k∧Hid (Rc.authorR fs (Rc.tags3.drop k)=Rc.authorR fs Rc.tags3)∧A6 W.heap.size W wr) (fun i _ _ _ _=>3 - (Ad i).toNat)
 case atStart=>exact⟨0,by omega,rfl,J rfl,Below.refl _ _⟩
 case round =>
  obtain⟨k,hk,rfl,hI,hb⟩:=hrel
  have hbs:=hb.size
  have hbw:=A8 hB hb
  replace c0:=A0 hb c0
  replace c1:=A0 hb c1
  replace c2:=A0 hb c2
  replace c3:=A0 hb c3
  replace c4:=A0 hb c4
  by_cases hlt:k<3
  ·obtain⟨x,y,z,hxyz,hdr,hcl⟩:=Rc.tags3_at hlt
   have d0:wr.cell? ⟨w.heap.size+1,k,A4⟩=A2 (.string ⟨#[x,y,z]⟩):=A0 hb ((HCT.out k).trans hcl)
   have hS2:=hS.below hb.drew
   have hI2:=hI.out
   rw[hdr]at hI2
   have g1:(k:Int)<3:=by omega
   obtain⟨L,hL⟩:∃ L,Hp fs [x,y,z]=L:=⟨_,rfl⟩
   have hll:L.length≤fs.length:=by rw[← hL];exact Bo _ _
   cases h0:L[0]? with
   | none =>
    have hl0:L=[]:=by cases L with | nil=>rfl | cons x r=>simp at h0
    rw[Rc.authorR_none (by rw[hL];exact h0)]at hI2
    have HI:=J hI2
    have HL:=J (hL.trans hl0)
    clear hI2 hL hl0 h0 hxyz hdr hcl hI hll
    go_wp2
    go_region_held3 (fun w'=>w'.cell? ⟨w.heap.size,0,A4⟩=A2 (.int .i64 id)∧w'.cell? ⟨w.heap.size,1,A4⟩=A2 (.int .i64 ver)∧w'.cell? ⟨w.heap.size,2,A4⟩=A2 (.int .i64 kind)∧w'.cell? ⟨w.heap.size,3,A4⟩=A2 (.string lang)∧w'.cell? ⟨w.heap.size,4,A4⟩=A2 (.slice a fs.length c)∧w'.cell? ⟨w.heap.size+1,k,A4⟩=A2 (.string ⟨#[x,y,z]⟩)) (go_keep)
     (first | ((go_at_call 189;refine (Fields_c fs a c id ver kind lang ⟨#[x,y,z]⟩ _ hS2 hn).mono ?_;rintro e w1 ⟨va,vc,rfl,hF,hb1⟩;have hb1u:=Tx.undrew hb1;replace c0:=A0 hb1u c0;replace c1:=A0 hb1u c1;replace c2:=A0 hb1u c2;replace c3:=A0 hb1u c3;replace c4:=A0 hb1u c4;replace d0:=A0 hb1u d0)))
    rw[show Hp fs (⟨#[x,y,z]⟩:ByteArray).data.toList=[] from HL.out]at hF ⊢
    go_wp2
    go_roundw
    case rel=>exact⟨k+1,by omega,by go_num,HI,A8 hb.drew hb1⟩
    case measure=>simp[Ad];omega
   | some f =>
    have HLL:=J (show 0<L.length from (Ai.1 h0).1)
    have hg0:(Hp fs [x,y,z])[0]?=A2 f:=by rw[hL];exact h0
    have HL:=J hL;clear hL
    have H0:=J h0;clear h0
    cases hv:Ju f.subs 97 with
    | none =>
     rw[Rc.authorR_no hg0 hv]at hI2
     have HI:=J hI2
     have HV:=J hv
     clear hg0 hv
     clear hI2 hxyz hdr hcl hI
     go_wp2
     go_region_held3 (fun w'=>w'.cell? ⟨w.heap.size,0,A4⟩=A2 (.int .i64 id)∧w'.cell? ⟨w.heap.size,1,A4⟩=A2 (.int .i64 ver)∧w'.cell? ⟨w.heap.size,2,A4⟩=A2 (.int .i64 kind)∧w'.cell? ⟨w.heap.size,3,A4⟩=A2 (.string lang)∧w'.cell? ⟨w.heap.size,4,A4⟩=A2 (.slice a fs.length c)∧w'.cell? ⟨w.heap.size+1,k,A4⟩=A2 (.string ⟨#[x,y,z]⟩)) (go_keep)
      (first | ((go_at_call 189;refine (Fields_c fs a c id ver kind lang ⟨#[x,y,z]⟩ _ hS2 hn).mono ?_;rintro e w1 ⟨va,vc,rfl,hF,hb1⟩;have hb1u:=Tx.undrew hb1;replace c0:=A0 hb1u c0;replace c1:=A0 hb1u c1;replace c2:=A0 hb1u c2;replace c3:=A0 hb1u c3;replace c4:=A0 hb1u c4;replace d0:=A0 hb1u d0)))
     rw[show Hp fs (⟨#[x,y,z]⟩:ByteArray).data.toList=L from HL.out]at hF ⊢
     obtain⟨b,o,sa,sc,rfl,hbl,e0,e1,e2,e3,hsub⟩:=hF.get H0.out
     rw[Ew,Bs]at e0 e1 e2 e3
     have hl1:0<L.length:=HLL.out
     go_wp2_with (go_at_call 192;refine (r07_Get_c f sa sc 97 _ hsub).mono ?_;rintro e w2 ⟨rfl,hb2⟩;rw[HV.out])
     go_roundw
     case rel=>exact⟨k+1,by omega,by go_num,HI,A8 (A8 hb.drew hb1) hb2⟩
     case measure=>simp[Ad];omega
    | some v =>
     rw[Rc.authorR_yes hg0 hv]at hI2
     have HI:=J hI2
     have HV:=J hv
     clear hg0 hv
     clear hI2 hxyz hdr hcl hI
     go_wp2
     go_region_held3 (fun w'=>w'.cell? ⟨w.heap.size,0,A4⟩=A2 (.int .i64 id)∧w'.cell? ⟨w.heap.size,1,A4⟩=A2 (.int .i64 ver)∧w'.cell? ⟨w.heap.size,2,A4⟩=A2 (.int .i64 kind)∧w'.cell? ⟨w.heap.size,3,A4⟩=A2 (.string lang)∧w'.cell? ⟨w.heap.size,4,A4⟩=A2 (.slice a fs.length c)∧w'.cell? ⟨w.heap.size+1,k,A4⟩=A2 (.string ⟨#[x,y,z]⟩)) (go_keep)
      (first | ((go_at_call 189;refine (Fields_c fs a c id ver kind lang ⟨#[x,y,z]⟩ _ hS2 hn).mono ?_;rintro e w1 ⟨va,vc,rfl,hF,hb1⟩;have hb1u:=Tx.undrew hb1;replace c0:=A0 hb1u c0;replace c1:=A0 hb1u c1;replace c2:=A0 hb1u c2;replace c3:=A0 hb1u c3;replace c4:=A0 hb1u c4;replace d0:=A0 hb1u d0)))
     rw[show Hp fs (⟨#[x,y,z]⟩:ByteArray).data.toList=L from HL.out]at hF ⊢
     obtain⟨b,o,sa,sc,rfl,hbl,e0,e1,e2,e3,hsub⟩:=hF.get H0.out
     rw[Ew,Bs]at e0 e1 e2 e3
     have hl1:0<L.length:=HLL.out
     go_wp2_with (go_at_call 192;refine (r07_Get_c f sa sc 97 _ hsub).mono ?_;rintro e w2 ⟨rfl,hb2⟩;rw[HV.out])
     go_ret
     exact⟨F6 (by rw[← HI.out]),A8 (A8 hbw.drew hb1) hb2⟩
  ·obtain rfl:k=3:=by omega
   have hI2:=hI.out
   have HI:=J hI2;clear hI2 hI
   go_wp2
   go_ret
   exact⟨F6 (by rw[← HI.out];rfl),hbw⟩
namespace Rc
open Go.Lib
def YS (L:By) (Y i n d:Nat):Prop:=(i≤L.length→yr n d (L.drop i)=Y)∧(L.length<i→Y=0)
def YB (n d:Nat):Prop:=n<10 ^ (min d 4)
theorem YB.zero:YB 0 0:=by unfold YB;decide
theorem YB.le {n d:Nat} (h:YB n d):n≤9999:=by
 unfold YB at h
 have:10 ^ (min d 4)≤10 ^ 4:=GB (by omega) (by omega)
 omega
theorem YB.d3 {n d:Nat} (h:YB n d) (hd:d+1≤4):n≤999:=by
 unfold YB at h
 have:10 ^ (min d 4)≤10 ^ 3:=GB (by omega) (by omega)
 omega
theorem YB.dig {n d:Nat} (h:YB n d) (hd:d+1≤4) {c:Nat} (hc:c≤9):YB (n*10+c) (d+1):=by
 unfold YB at *
 rw[show min (d+1) 4=d+1 by omega,Nat.pow_succ]
 rw[show min d 4=d by omega]at h
 omega
theorem YB.more {n d:Nat} (h:YB n d) (hd:¬ d+1≤4):YB n (d+1):=by
 unfold YB at *
 rw[show min (d+1) 4=4 by omega]
 rw[show min d 4=4 by omega]at h
 exact h
theorem YS.digit {L:By}{Y i n d:Nat} (h:YS L Y i n d) {c:UInt8} (hi:i<L.length) (hc:L.getD i 0=c) (hd:isD c):YS L Y (i+1) (if d+1≤4 then n*10+(c.toNat - 48) else n) (d+1):=by
 refine⟨fun _=>?_,fun h9=>by omega⟩
 have:=h.1 (by omega)
 rw[drop_cons L i hi,hc,yr_digit _ _ _ _ hd]at this
 exact this
theorem YS.other {L:By}{Y i n d:Nat} (h:YS L Y i n d) (hi:i≤L.length) (hc:i<L.length→¬ isD (L.getD i 0)):(d=4∧1000≤n∧n≤2199→Y=n)∧(¬ (d=4∧1000≤n∧n≤2199)→YS L Y (i+1) 0 0):=by
 have h1:=h.1 hi
 rcases Cv i L.length with hl | hl
 ·rw[drop_cons L i hl,yr_other _ _ _ _ (hc hl)]at h1
  exact⟨fun h9=>by rw[if_pos h9]at h1;exact h1.symm,fun h9=>by rw[if_neg h9]at h1;exact⟨fun _=>h1,fun h8=>by omega⟩⟩
 ·rw[AB hl,yr_nil]at h1
  exact⟨fun h9=>by rw[if_pos h9]at h1;exact h1.symm,fun h9=>by rw[if_neg h9]at h1;exact⟨fun h8=>by omega,fun _=>h1.symm⟩⟩
end Rc
theorem r08_year_c (s:ByteArray) (w:A9) (hs:s.size≤1000000000) :
  Ac A3 193 #[.string s] w fun e w'=>e=.returned (.int .i64 (Er s.data.toList))∧w=w':=by
 obtain⟨Y,hY⟩:∃ Y,Er s.data.toList=Y:=⟨_,rfl⟩
 have HY:=J hY;clear hY
 go_enter Tryz.func193,Tryz.ntmps193
 go_wp2
 go_loop [3,4,5] (fun vn vd vi=>∃ (i n d:Nat),i≤s.size+1∧d≤i∧vn=.int .i64 n∧vd=.int .i64 d∧vi=.int .i64 i∧Hid (Rc.YS s.data.toList Y i n d)∧Hid (Rc.YB n d)) (fun _ _ i=>s.size+1 - (Ad i).toNat)
 case atStart=>exact⟨0,0,0,by omega,An _,rfl,rfl,rfl,J ⟨fun _=>HY.out,fun h=>absurd h (by omega)⟩,J Rc.YB.zero⟩
 case round =>
  obtain⟨i,n,d,hi,hdi,rfl,rfl,rfl,hYS,hYB⟩:=hrel
  have hn9:=hYB.out.le
  by_cases hle:i≤s.size
  ·obtain⟨x,hx⟩:∃ x,s.data.toList.getD i 0=x:=⟨_,rfl⟩
   have e0:∀ h,s[i]'h=x:=fun h=>by rw[← hx,Tx.getD_at s i h]
   have hL:=Ak s
   have HL:=J hL;clear hL
   by_cases hdig:i<s.size∧48≤x.toNat∧x.toNat≤57
   ·obtain⟨hlt,g1,g2⟩:=hdig
    have hst:=hYS.out.digit (by rw[← HL.out];exact hlt) hx ⟨g1,g2⟩
    have g1':(48:Int)≤(x.toNat:Int):=by omega
    have g2':(x.toNat:Int)≤57:=by omega
    by_cases hd4:d+1≤4
    ·rw[if_pos hd4]at hst
     have HB:=J (hYB.out.dig hd4 (c:=x.toNat - 48) (by omega))
     have hn3:=hYB.out.d3 hd4
     have HS:=J hst
     clear hst hx
     go_wp2
     go_round
     case rel=>exact⟨i+1,n*10+(x.toNat - 48),d+1,by omega,by omega,by go_num,by go_num,by go_num,HS,HB⟩
     case measure=>simp[Ad];omega
    ·rw[if_neg hd4]at hst
     have HB:=J (hYB.out.more hd4)
     have HS:=J hst
     clear hst hx
     go_wp2
     go_round
     case rel=>exact⟨i+1,n,d+1,by omega,by omega,rfl,by go_num,by go_num,HS,HB⟩
     case measure=>simp[Ad];omega
   ·obtain⟨ho1,ho2⟩:=hYS.out.other (by rw[← HL.out];exact hle) (fun hl9 hd9=>hdig ⟨by rw[HL.out];exact hl9,by rw[← hx];exact hd9⟩)
    by_cases hyes:d=4∧1000≤n∧n≤2199
    ·have HN:=J (ho1 hyes)
     obtain⟨rfl,g3,g4⟩:=hyes
     have g3':(1000:Int)≤(n:Int):=by omega
     have g4':(n:Int)≤2199:=by omega
     clear ho1 ho2 hx
     rcases (show i=s.size∨(i<s.size∧x.toNat<48)∨(i<s.size∧48≤x.toNat∧57<x.toNat) by omega) with rfl | ⟨h1,h2⟩ | ⟨h1,h2,h3⟩
     ·clear e0
      go_wp2
      go_ret
      exact⟨Av (by rw[HY.out,HN.out]),rfl⟩
     ·have h2':(x.toNat:Int)<48:=by omega
      go_wp2
      go_ret
      exact⟨Av (by rw[HY.out,HN.out]),rfl⟩
     ·have h2':(48:Int)≤(x.toNat:Int):=by omega
      have h3':(57:Int)<(x.toNat:Int):=by omega
      go_wp2
      go_ret
      exact⟨Av (by rw[HY.out,HN.out]),rfl⟩
    ·have HN:=J (ho2 hyes)
     clear ho1 ho2 hx
     rcases (show i=s.size∨(i<s.size∧x.toNat<48)∨(i<s.size∧48≤x.toNat∧57<x.toNat) by omega) with rfl | ⟨h1,h2⟩ | ⟨h1,h2,h3⟩
     ·clear e0
      by_cases hd:d=4
      ·subst hd
       by_cases h5:n<1000
       ·have h5':(n:Int)<1000:=by omega
        go_wp2
        go_round
        case rel=>exact⟨s.size+1,0,0,by omega,by omega,rfl,rfl,by go_num,HN,J Rc.YB.zero⟩
        case measure=>simp[Ad]
       ·have h5':(1000:Int)≤(n:Int):=by omega
        have h6':(2199:Int)<(n:Int):=by omega
        go_wp2
        go_round
        case rel=>exact⟨s.size+1,0,0,by omega,by omega,rfl,rfl,by go_num,HN,J Rc.YB.zero⟩
        case measure=>simp[Ad]
      ·have hd':((d:Int) == 4)=false:=beq_eq_false_iff_ne.2 (by omega)
       clear hd
       go_wp2
       go_round
       case rel=>exact⟨s.size+1,0,0,by omega,by omega,rfl,rfl,by go_num,HN,J Rc.YB.zero⟩
       case measure=>simp[Ad]
     ·have h2':(x.toNat:Int)<48:=by omega
      by_cases hd:d=4
      ·subst hd
       by_cases h5:n<1000
       ·have h5':(n:Int)<1000:=by omega
        go_wp2
        go_round
        case rel=>exact⟨i+1,0,0,by omega,by omega,rfl,rfl,by go_num,HN,J Rc.YB.zero⟩
        case measure=>simp[Ad];omega
       ·have h5':(1000:Int)≤(n:Int):=by omega
        have h6':(2199:Int)<(n:Int):=by omega
        go_wp2
        go_round
        case rel=>exact⟨i+1,0,0,by omega,by omega,rfl,rfl,by go_num,HN,J Rc.YB.zero⟩
        case measure=>simp[Ad];omega
      ·have hd':((d:Int) == 4)=false:=beq_eq_false_iff_ne.2 (by omega)
       clear hd
       go_wp2
       go_round
       case rel=>exact⟨i+1,0,0,by omega,by omega,rfl,rfl,by go_num,HN,J Rc.YB.zero⟩
       case measure=>simp[Ad];omega
     ·have h2':(48:Int)≤(x.toNat:Int):=by omega
      have h3':(57:Int)<(x.toNat:Int):=by omega
      by_cases hd:d=4
      ·subst hd
       by_cases h5:n<1000
       ·have h5':(n:Int)<1000:=by omega
        go_wp2
        go_round
        case rel=>exact⟨i+1,0,0,by omega,by omega,rfl,rfl,by go_num,HN,J Rc.YB.zero⟩
        case measure=>simp[Ad];omega
       ·have h5':(1000:Int)≤(n:Int):=by omega
        have h6':(2199:Int)<(n:Int):=by omega
        go_wp2
        go_round
        case rel=>exact⟨i+1,0,0,by omega,by omega,rfl,rfl,by go_num,HN,J Rc.YB.zero⟩
        case measure=>simp[Ad];omega
      ·have hd':((d:Int) == 4)=false:=beq_eq_false_iff_ne.2 (by omega)
       clear hd
       go_wp2
       go_round
       case rel=>exact⟨i+1,0,0,by omega,by omega,rfl,rfl,by go_num,HN,J Rc.YB.zero⟩
       case measure=>simp[Ad];omega
  ·obtain rfl:i=s.size+1:=by omega
   have h0:Y=0:=hYS.out.2 (by rw[← Ak];omega)
   have H0:=J h0;clear h0
   go_wp2
   go_ret
   exact⟨Av (by rw[HY.out,H0.out];rfl),rfl⟩
theorem r08_Year_c (fs:List BS) (a:Option Ao) (c:Nat) (id ver kind:Int) (lang:ByteArray) (w:A9) (h:AV w a c fs) (hg:∀ f∈fs,Rc.Gd f) :
  Ac A3 113 #[.agg #[.int .i64 id,.int .i64 ver,.int .i64 kind,.string lang,.slice a fs.length c]] w fun e w'=>e=.returned (.int .i64 (Rc.year fs))∧A6 w.heap.size w w':=by
 obtain⟨W,hW⟩:∃ W,w.alloc (.cells #[.int .i64 id,.int .i64 ver,.int .i64 kind,.string lang,.slice a fs.length c] 51)=W:=⟨_,rfl⟩
 have hB:A6 w.heap.size w W:=by rw[← hW];exact Aa _ _
 have c4:W.cell? ⟨w.heap.size,4,A4⟩=A2 (.slice a fs.length c):=by rw[← hW];simp
 have hS:=h.below hB
 have hcap:=h.cap
 have hmx:Au=9223372036854775807:=rfl
 have hmax:=h.max
 obtain⟨ys,hys⟩:∃ ys,fs.map (fun f=>if Rc.pubTag f then Jv (BX f.subs [99]) else 0)=ys:=⟨_,rfl⟩
 have hyr:Rc.year fs=FK ys:=by rw[← hys];rfl
 have HYS:=J hys;clear hys
 go_enter Tryz.func113,Tryz.ntmps113
 go_wp2
 clear hW
 go_loopw [3,4,5,6] (fun i _ _ _ wr=>∃ (k:Nat),k≤fs.length∧i=.int .i64 k∧Hid (FK (ys.drop k)=Rc.year fs)∧A6 W.heap.size W wr) (fun i _ _ _ _=>fs.length - (Ad i).toNat)
 case atStart=>exact⟨0,Ae _,rfl,J (by rw[AM,hyr]),Below.refl _ _⟩
 case round =>
  obtain⟨k,hk,rfl,hI,hb⟩:=hrel
  clear hyr
  have hbw:=A8 hB hb
  replace c4:=A0 hb c4
  by_cases hlt:k<fs.length
  ·obtain⟨f,hf⟩:∃ f,fs[k]?=A2 f:=⟨_,A7 hlt⟩
   have hgf:=hg f (Ag hf)
   obtain⟨b,o,sa,sc,rfl,hbl,d0,d1,d2,d3,hsub⟩:=hS.get hf
   replace d0:=A0 hb d0
   replace d1:=A0 hb d1
   replace d2:=A0 hb d2
   replace d3:=A0 hb d3
   have hsub1:=hsub.below hb
   have hyk:ys[k]?=A2 (if Rc.pubTag f then Jv (BX f.subs [99]) else 0):=by rw[← HYS.out,AE,hf];rfl
   have hst:=Hq hyk
   rw[hI.out]at hst
   cases h0:Rc.tagIs [50,54,48] f <;> cases h4:Rc.tagIs [50,54,52] f
   ·obtain⟨e0,e4,ep⟩:=Rc.pub_eq f h0 h4
    rw[ep]at hst
    simp only[Bool.or_self,Bool.false_eq_true,if_false,if_true]at hst
    have n0:(f.tag.toList != [50,54,48])=true:=by rw[bne,e0];rfl
    have n4:(f.tag.toList != [50,54,52])=true:=by rw[bne,e4];rfl
    have HS:=J hst;clear hst h0 h4 ep hyk
    go_wp2
    go_roundw
    case rel=>exact⟨k+1,by omega,by go_num,J HS.out.symm,hb⟩
    case measure=>simp[Ad];omega
   all_goals
    obtain⟨e0,e4,ep⟩:=Rc.pub_eq f h0 h4
    rw[ep]at hst
    simp only[Bool.or_self,Bool.or_true,Bool.true_or,if_true]at hst
    have n0:(f.tag.toList != [50,54,48])=!(f.tag.toList == [50,54,48]):=rfl
    have n4:(f.tag.toList != [50,54,52])=!(f.tag.toList == [50,54,52]):=rfl
    rw[e0]at n0
    rw[e4]at n4
    simp only[Bool.not_true,Bool.not_false]at n0 n4
    obtain⟨L,hL⟩:∃ L,BX f.subs [99]=L:=⟨_,rfl⟩
    have hsz:∀ x∈L,x.size≤100000:=fun x hx=>Rc.all_size hgf [99] (by rw[hL];exact hx)
    have hll:L.length≤1000:=by rw[← hL];exact (hgf.all _).1
    rw[hL]at hst
    have HS:=J hst;clear hst h0 h4 ep hyk
    have HL:=J hL;clear hL
    have HZ:=J hsz;clear hsz
    have HG:=J hgf;clear hgf
    go_wp2_with (go_at_call 142;refine (r07_All_c f sa sc ⟨#[99]⟩ _ hsub1 HG.out.1 (by decide)).mono ?_;rintro e w1 ⟨va,vc,rfl,hsla,hb1⟩;rw[show BX f.subs (⟨#[99]⟩:ByteArray).data.toList=L from HL.out]at hsla ⊢)
    have hbo:=A8 hb hb1
    replace c4:=A0 hb1 c4
    go_loop [5,6] (fun j _=>∃ (m:Nat),m≤L.length∧j=.int .i64 m∧Hid (FK ((L.map fun x=>Er x.data.toList).drop m)=Jv L)) (fun j _=>L.length - (Ad j).toNat)
    case atStart=>exact⟨0,Ae _,rfl,J (by rw[AM];rfl)⟩
    case round =>
     obtain⟨m,hm,rfl,hJ⟩:=hrel
     by_cases hml:m<L.length
     ·obtain⟨x,hx⟩:∃ x,L[m]?=A2 x:=⟨_,A7 hml⟩
      have hxs:=HZ.out x (Ag hx)
      obtain⟨b5,o5,rfl,hbl5,f0⟩:=hsla.get hx
      have hst:=Hq (l:=L.map fun x=>Er x.data.toList) (k:=m) (n:=Er x.data.toList) (by rw[AE,hx];rfl)
      rw[hJ.out]at hst
      obtain⟨Y,hY⟩:∃ Y,Er x.data.toList=Y:=⟨_,rfl⟩
      rw[hY]at hst
      have HY:=J hY;clear hY hx
      by_cases hy0:Y=0
      ·subst hy0
       rw[if_pos rfl]at hst
       have HT:=J hst;clear hst
       go_wp2_with (go_at_call 193;refine (r08_year_c x _ (by omega)).mono ?_;rintro e w3 ⟨rfl,rfl⟩;rw[HY.out])
       go_round
       case rel=>exact⟨m+1,by omega,by go_num,J HT.out.symm⟩
       case measure=>simp[Ad];omega
      ·rw[if_neg hy0]at hst
       have HT:=J hst;clear hst
       have hyp:0<(Y:Int):=by omega
       have hyp2:0<Y:=by omega
       have HU:=HS.out
       rw[HT.out,if_neg hy0]at HU
       have HU2:=J HU;clear HU hy0
       go_wp2_with (go_at_call 193;refine (r08_year_c x _ (by omega)).mono ?_;rintro e w3 ⟨rfl,rfl⟩;rw[HY.out])
       go_ret
       exact⟨Av (by rw[HU2.out]),A8 hbw hb1⟩
     ·obtain rfl:m=L.length:=by omega
      have hv:=hJ.out
      rw[AB (by rw[At];omega)]at hv
      have HU:=HS.out
      rw[← hv,if_pos (show FK []=0 from rfl)]at HU
      have HU2:=J HU;clear HU hv
      go_wp2
      go_roundw
      case rel=>exact⟨k+1,by omega,by go_num,J HU2.out.symm,hbo⟩
      case measure=>simp[Ad];omega
  ·obtain rfl:k=fs.length:=by omega
   have hv:=hI.out
   rw[AB (by rw[← HYS.out,At];omega)]at hv
   have HV:=J hv;clear hv
   go_wp2
   go_ret
   exact⟨Av (by rw[← HV.out];rfl),hbw⟩
end Go.Proofs.YtlakomilichhnaaGreatDoor
