/- Texts of this seat's, what the claim needs of them. -/
import Derived.Test.YtlakomilichhnaaGreatDoorZOo
import Derived.Test.YtlakomilichhnaaGreatDoorZOm
namespace Go.Proofs.YtlakomilichhnaaGreatDoor
set_option maxHeartbeats 6400000
set_option maxRecDepth 100000
open Go.RowKit
open Go renaming Calls→Ac,World→A9,cell_later→A0
open Ix renaming keyS→Nq,skey→Np
open Lib renaming compareInt→ER,hid→J,size_eq→Ak,toList_data→AA
open List renaming length_append→Af,length_cons→AO,map_cons→Cf,mem_cons_of_mem→Bw,mem_cons_self→AY,sum_cons→N6
open Nat renaming le_trans→AK
open Option renaming none→A4,some→A2
open Proofs.Tryz renaming func42→N3,ntmps42→Md,prog→A3,underlying112→Kc
open Rc renaming Rd→BF,author→Gh,bys→Nu,title→F4,year→DU
open RowKit renaming Below→A6
open Sr renaming cmpB→Kv,key→Ku,skip→KB
open Tx renaming clean→KZ,newb→Aa,rets→F6,step→A8,valid→AL
open Vm renaming upd→J9,upd_other→D4,upd_same→FY
namespace Rc
end Rc
namespace Sr
theorem compareBytes_eq:∀ a b:By,Lib.compareBytes a b=cmpB a b
 | [],[]=>by decide
 | [],b::s2=>by
  unfold cmpB Cp.ltB
  rw[if_pos (decide_eq_true (List.nil_lt_cons b s2))]
  rfl
 | a::s1,[]=>by
  unfold cmpB Cp.ltB
  rw[if_neg (by simp),if_neg (by simp)]
  rfl
 | a::s1,b::s2=>by
  have ih:=compareBytes_eq s1 s2
  unfold Lib.compareBytes
  by_cases h1:a<b
  ·rw[if_pos h1]
   unfold cmpB Cp.ltB
   rw[if_pos (decide_eq_true (List.cons_lt_cons_iff.2 (.inl h1)))]
  ·rw[if_neg h1]
   by_cases h2:b<a
   ·rw[if_pos h2]
    unfold cmpB Cp.ltB
    have hne:a≠b:=fun e=>h1 (by rw[e]at h2 ⊢;exact h2)
    rw[if_neg,if_neg]
    ·intro e
     injection e with e
     exact hne e
    ·rw[decide_eq_true_eq,List.cons_lt_cons_iff]
     rintro (h | ⟨h,_⟩)
     ·exact h1 h
     ·exact hne h
   ·rw[if_neg h2,ih]
    have e:a=b:=by
     rw[UInt8.not_lt]at h1 h2
     exact UInt8.le_antisymm h2 h1
    subst e
    unfold cmpB Cp.ltB
    have h3:(a::s1<a::s2)↔s1<s2:=by
     rw[List.cons_lt_cons_iff]
     exact⟨fun h=>h.elim (fun h=>absurd h h1) (·.2),fun h=>.inr ⟨rfl,h⟩⟩
    by_cases h4:s1<s2
    ·rw[if_pos (decide_eq_true h4),if_pos (decide_eq_true (h3.2 h4))]
    ·rw[if_neg (c:=decide (s1<s2)=true) (fun h=>h4 (of_decide_eq_true h)),if_neg (c:=decide (a::s1<a::s2)=true) (fun h=>h4 (h3.1 (of_decide_eq_true h)))]
     by_cases h5:s1=s2
     ·rw[if_pos h5,if_pos (by rw[h5])]
     ·rw[if_neg h5,if_neg (fun h=>h5 (by injection h))]
noncomputable def artF:Lit→Option Value :=
 J9 (J9 (J9 (J9 (fun _=>A4) (.string [101,110,103]) (.string ⟨#[32,116,104,101,32,97,32,97,110,32]⟩)) (.string [103,101,114]) (.string ⟨[32,100,101,114,32,100,105,101,32,100,97,115,32,101,105,110,32,101,105,110,101,32].toArray⟩)) (.string [115,119,101]) (.string ⟨[32,101,110,32,101,116,116,32,100,101,110,32,100,101,116,32,100,101,32].toArray⟩)) (.string [115,112,97]) (.string ⟨[32,101,108,32,108,97,32,108,111,115,32,108,97,115,32,117,110,32,117,110,97,32].toArray⟩)
theorem artF_at (lang:By):(artF (.string lang)).getD (.string ⟨#[]⟩)=.string ⟨(artM lang).toArray⟩:=by
 unfold artF artM
 have e:∀ x:By,lang≠x→(Lit.string lang:Lit)≠.string x:=fun x h h9=>h (by injection h9)
 by_cases h1:lang=[101,110,103]
 ·subst h1
  rw[D4 _ _ (e _ (by decide)),D4 _ _ (e _ (by decide)),D4 _ _ (e _ (by decide)),FY,if_pos rfl]
  rfl
 ·by_cases h2:lang=[103,101,114]
  ·subst h2
   rw[D4 _ _ (e _ (by decide)),D4 _ _ (e _ (by decide)),FY,if_neg (by decide),if_pos rfl]
   rfl
  ·by_cases h3:lang=[115,119,101]
   ·subst h3
    rw[D4 _ _ (e _ (by decide)),FY,if_neg (by decide),if_neg (by decide),if_pos rfl]
    rfl
   ·by_cases h4:lang=[115,112,97]
    ·subst h4
     rw[FY,if_neg (by decide),if_neg (by decide),if_neg (by decide),if_pos rfl]
     rfl
    ·rw[D4 _ _ (e _ h4),D4 _ _ (e _ h3),D4 _ _ (e _ h2),D4 _ _ (e _ h1),if_neg h1,if_neg h2,if_neg h3,if_neg h4]
     rfl
end Sr
namespace Vm
section
variable {k : TypeId} {w w' : A9} {M n : Nat} {f : Lit → Option Value} {ops : Array Oper} {rest : List Oper} {o : Oper} {a : Act} {Q : Exit → Act → A9 → Prop}
theorem ins_step (hp:Map k w M n f) (hn:n<maxLen) (K:Maps.Keyed A3 k) {key:Value}{kl:Lit} (hkey:keyOf A3 k key=A2 kl) (hkl:WideAt.IsKeyLit kl) (hg:o.guard=A4) (m x v:Operand) {t e:TypeId} (hop:o.op=Op.insert t m x v)
  (ht:A3.underlying t=A2 (.map k e)) (hm:a.eval m=.map (A2 M)) (hx:a.eval x=key) {u:Value} (hv:a.eval v=u)
  (hK:∀ w',Map k w' M (n+1) (upd f kl u)→w.grownBy w' (A2 M)→wpList A3 ops Q rest (a.put o.dst undef) w'):wpList A3 ops Q (o::rest) a w:=by
 obtain⟨D,h1,h2⟩:=hp.d
 refine wpList_plain hg fun K' hK'=>?_
 obtain⟨w',hrun,r1,r2⟩:=h1.update K ht hn hkey (val:=u) (d:=.held u) (ps:=[]) rfl
 unfold Oper.wp
 simp[execOp,hop,hm,hx,hv,hrun,Result.andThen]
 exact hK' _ _ (hK w' ⟨⟨_,r1,h2.put (h1.tidy K).isMap hkl u⟩⟩ r2)
end
end Vm
theorem collate_Compare_c (lang a b:ByteArray) (w:A9) (hG:G w) (ha:a.size≤1000000) (hb:b.size≤1000000) (va:AL a.data.toList=true) (vb:AL b.data.toList=true) :
  Ac A3 46 #[.string lang,.string a,.string b] w fun e w'=>e=.returned (.int .i64 (Sr.cmp lang.data.toList a.data.toList b.data.toList))∧A6 w.heap.size w w':=by
 obtain⟨X,hX⟩:∃ X:ByteArray,(⟨(Ku lang.data.toList a.data.toList).toArray⟩:ByteArray)=X:=⟨_,rfl⟩
 obtain⟨Y,hY⟩:∃ Y:ByteArray,(⟨(Ku lang.data.toList b.data.toList).toArray⟩:ByteArray)=Y:=⟨_,rfl⟩
 have hXd:Ku lang.data.toList a.data.toList=X.data.toList:=by rw[← hX]
 have hYd:Ku lang.data.toList b.data.toList=Y.data.toList:=by rw[← hY]
 have K1:=Key_c lang a w hG ha va
 have K2:∀ w',A6 w.heap.size w w'→_:=fun w' h=>Key_c lang b w' (hG.below h) hb vb
 have C1:∀ w',Ac A3 103 #[.string X,.string Y] w' fun e w''=>e=.returned (.int .i64 (Kv X.data.toList Y.data.toList))∧w''=w':=fun w'=>by rw[← Sr.compareBytes_eq];exact Tryz.strings_Compare X Y w'
 have C2:∀ w',Ac A3 103 #[.string a,.string b] w' fun e w''=>e=.returned (.int .i64 (Kv a.data.toList b.data.toList))∧w''=w':=fun w'=>by rw[← Sr.compareBytes_eq];exact Tryz.strings_Compare a b w'
 have hE:Sr.cmp lang.data.toList a.data.toList b.data.toList=if X.data.toList=Y.data.toList then Kv a.data.toList b.data.toList else Kv X.data.toList Y.data.toList:=by unfold Sr.cmp;rw[hXd,hYd]
 rw[hE]
 rw[hX]at K1
 rw[hY]at K2
 obtain⟨c,hc⟩:∃ c,Kv X.data.toList Y.data.toList=c:=⟨_,rfl⟩
 obtain⟨d,hd⟩:∃ d,Kv a.data.toList b.data.toList=d:=⟨_,rfl⟩
 rw[hc]at C1
 rw[hd]at C2
 rw[hc,hd]
 have HK1:=J K1
 have HK2:=J K2
 have HC1:=J C1
 have HC2:=J C2
 by_cases h0:X.data.toList=Y.data.toList
 ·rw[if_pos h0]
  have hc0:c=0:=by rw[← hc];exact Sr.cmpB_zero.2 h0
  subst hc0
  clear K1 K2 C1 C2 hE hX hY hXd hYd hc hd h0 hG
  go_enter Tryz.func46,Tryz.ntmps46
  go_wp2_with (first
   |(go_at_call 103;((with_reducible refine (HC1.out _).mono ?_);rintro e w3 ⟨rfl,rfl⟩))
   |(go_at_call 103;((with_reducible refine (HC2.out _).mono ?_);rintro e w4 ⟨rfl,rfl⟩))
   |(go_at_call 104;((with_reducible refine (HK2.out _ hb1).mono ?_);rintro e w2 ⟨rfl,hb2⟩))
   |(go_at_call 104;((with_reducible refine HK1.out.mono ?_);rintro e w1 ⟨rfl,hb1⟩)))
  go_ret
  exact⟨rfl,A8 hb1 hb2⟩
 ·rw[if_neg h0]
  have hc0:(c != 0)=true:=bne_iff_ne.2 fun e=>h0 (Sr.cmpB_zero.1 (by rw[hc,e]))
  clear K1 K2 C1 C2 hE hX hY hXd hYd hc hd h0 hG
  go_enter Tryz.func46,Tryz.ntmps46
  go_wp2_with (first
   |(go_at_call 103;((with_reducible refine (HC1.out _).mono ?_);rintro e w3 ⟨rfl,rfl⟩))
   |(go_at_call 104;((with_reducible refine (HK2.out _ hb1).mono ?_);rintro e w2 ⟨rfl,hb2⟩))
   |(go_at_call 104;((with_reducible refine HK1.out.mono ?_);rintro e w1 ⟨rfl,hb1⟩)))
  go_ret
  exact⟨rfl,A8 hb1 hb2⟩
theorem articles_c (w:A9):Ac A3 97 #[] w fun e w'=>∃ M,e=.returned (.map (A2 M))∧Vm.Map 9 w' M 4 Sr.artF∧A6 w.heap.size w w':=by
 have hmm:=@run_makeMap A3
 have hM0:Vm.Map 9 (w.alloc (.map #[] 0)) w.heap.size 0 (fun _=>A4):=Vm.Map.made 9 w
 have hb0:A6 w.heap.size w (w.alloc (.map #[] 0)):=Aa _ _
 obtain⟨W,hW⟩:∃ W,w.alloc (.map #[] 0)=W:=⟨_,rfl⟩
 rw[hW]at hM0 hb0
 have hWs:w.heap.size≤W.heap.size:=hb0.size
 go_enter Tryz.func97,Tryz.ntmps97
 go_wp2_with (first
  |(refine Vm.ins_step hM3 (by decide) Np (Nq [115,112,97] (by decide)) trivial rfl _ _ _ rfl Kc rfl rfl rfl ?_;intro w4 hM4 hg4)
  |(refine Vm.ins_step hM2 (by decide) Np (Nq [115,119,101] (by decide)) trivial rfl _ _ _ rfl Kc rfl rfl rfl ?_;intro w3 hM3 hg3)
  |(refine Vm.ins_step hM1 (by decide) Np (Nq [103,101,114] (by decide)) trivial rfl _ _ _ rfl Kc rfl rfl rfl ?_;intro w2 hM2 hg2)
  |(refine Vm.ins_step hM0 (by decide) Np (Nq [101,110,103] (by decide)) trivial rfl _ _ _ rfl Kc rfl rfl rfl ?_;intro w1 hM1 hg1))
 go_ret
 have s1:=hg1.size
 have s2:=hg2.size
 have s3:=hg3.size
 exact⟨_,rfl,hM4,(((hb0.grown hg1 hWs (fun k h=>by injection h with h;omega)).grown hg2 (by omega) (fun k h=>by injection h with h;omega)).grown hg3 (by omega) (fun k h=>by injection h with h;omega)).grown hg4 (by omega) (fun k h=>by injection h with h;omega)⟩
theorem cut_sp_c (s:ByteArray) (w:A9) (hs:s.size≤1000000) (hG:G w) {p q:ByteArray}{b:Bool} (h:Lib.cut s.data.toList [32]=(p.data.toList,q.data.toList,b)) :
  Ac A3 93 #[.string s,.string ⟨#[32]⟩] w fun e w'=>e=.returned (.tuple #[.string p,.string q,.bool b])∧A6 w.heap.size w w':=by
 obtain⟨m,hm⟩:=hG.m
 refine (Tryz.strings_Cut s ⟨#[32]⟩ m w (by omega) hm).mono ?_
 rintro e w' ⟨he,n,rfl⟩
 have h2:Lib.cut s.data.toList (⟨#[32]⟩:ByteArray).data.toList=(p.data.toList,q.data.toList,b):=h
 rw[h2]at he
 exact⟨he,Tx.below_drewN (Below.refl _ _) n⟩
theorem has_sp_c (s:ByteArray) (w:A9) (hs:s.size≤100000000) (hG:G w) :
  Ac A3 96 #[.string s,.string ⟨#[32]⟩] w fun e w'=>e=.returned (.bool (decide ((32:UInt8)∈s.data.toList)))∧w'=w:=by
 obtain⟨m,hm⟩:=hG.m
 have h:=Tryz.strings_Contains s ⟨#[32]⟩ m w (by omega) hm
 rw[← Sr.contains_blank]
 exact h
theorem has_art_c (lang:Sr.By) (x s z:ByteArray) (w:A9) (hs:s.size≤100000000) (hG:G w) (he:s.data.toList=Sr.artM lang) (hz:z.data.toList=32::(x.data.toList++[32])) (hx:(32:UInt8) ∉ x.data.toList) :
  Ac A3 96 #[.string s,.string z] w fun e w'=>e=.returned (.bool (decide (x.data.toList∈Sr.arts lang)))∧w'=w:=by
 obtain⟨m,hm⟩:=hG.m
 have h:=Tryz.strings_Contains s z m w (by omega) hm
 rw[he,hz,Sr.contains_art hx]at h
 exact h
namespace Sr
theorem artM_len (lang:By):(artM lang).length≤30:=by
 unfold artM
 repeat' split
 all_goals decide
theorem szeroS (w:A9):(zeroValue 9).run A3 w=.ok (.string ⟨#[]⟩) w:=by kernel_rfl
end Sr
theorem Skip_c (lang s:ByteArray) (w:A9) (hG:G w) (hs:s.size≤1000000) (hl:lang.size≤1000000) (hv:AL s.data.toList=true) :
  Ac A3 42 #[.string lang,.string s] w fun e w'=>e=.returned (.string ⟨(KB lang.data.toList s.data.toList).toArray⟩)∧A6 w.heap.size w w':=by
 have hsame:∀ {x:Sr.By},s.data.toList=x→(⟨x.toArray⟩:ByteArray)=s:=fun {x} h=>by rw[← h]
 rcases Sr.split_blank s.data.toList with h0 | ⟨w0,r,he,h0⟩
 ·rw[Sr.skip_none h0,hsame rfl]
  have CC:=cut_sp_c s w hs hG (p:=s) (q:=⟨#[]⟩) (b:=false) (Sr.cut_none h0)
  have HC:=J CC
  clear CC hsame h0 hG hv
  go_enter N3,Md
  go_wp2_with (go_at_call 93;((with_reducible refine HC.out.mono ?_);rintro e w1 ⟨rfl,hb1⟩))
  go_ret
  exact⟨rfl,hb1⟩
 ·obtain⟨P,hP⟩:∃ P:ByteArray,P.data.toList=w0:=⟨⟨w0.toArray⟩,rfl⟩
  obtain⟨R,hR⟩:∃ R:ByteArray,R.data.toList=r:=⟨⟨r.toArray⟩,rfl⟩
  subst hP hR
  rw[he,Sr.skip_cut h0]
  have CC:=cut_sp_c s w hs hG (p:=P) (q:=R) (b:=true) (by rw[he];exact Sr.cut_at h0)
  have hse:=hsame he
  have HC:=J CC
  have hsz:P.size+1+R.size=s.size:=by
   have:=congrArg List.length he
   rw[Af,AO,← Ak,← Ak,← Ak]at this
   omega
  rw[he]at hv
  have hPv:=(Hd.valid_cut (c:=32) (by decide) _ P.data.toList R.data.toList (Nat.le_refl _) hv).1
  clear CC hv
  by_cases hPe:P.data.toList=[]
  ·rw[if_neg (by rw[hPe];exact fun h=>Sr.arts_nil h.1),hse]
   have ht:(P.toList == [])=true:=by rw[AA,hPe];rfl
   clear hsame hse h0 he hPe hPv hG
   go_enter N3,Md
   go_wp2_with (go_at_call 93;((with_reducible refine HC.out.mono ?_);rintro e w1 ⟨rfl,hb1⟩))
   go_ret
   exact⟨rfl,hb1⟩
  ·have ht:(P.toList == [])=false:=by rw[AA];simpa using hPe
   obtain⟨Q,hQ⟩:∃ Q:ByteArray,Q.data.toList=R.data.toList.dropWhile (· == 32):=⟨⟨(R.data.toList.dropWhile (· == 32)).toArray⟩,rfl⟩
   obtain⟨X,hX⟩:∃ X:ByteArray,X.data.toList=Tx.foldS P.data.toList:=⟨⟨(Tx.foldS P.data.toList).toArray⟩,rfl⟩
   have hXl:X.size≤2*P.size:=by rw[Ak,hX,Ak];exact Tx.foldS_len hPv
   have hQe:(⟨(R.data.toList.dropWhile (· == 32)).toArray⟩:ByteArray)=Q:=by rw[← hQ]
   have TC:∀ w',Ac A3 94 #[.string R,.string ⟨#[32]⟩] w' fun e w''=>e=.returned (.string Q)∧w''=w':=fun w'=>by
    have:=Tryz.strings_TrimLeft_one R 32 (by decide) w'
    rw[Sr.trim_blanks,hQe]at this
    exact this
   have FC:∀ w',A6 w.heap.size w w'→Ac A3 95 #[.string P] w' fun e w''=>e=.returned (.string X)∧A6 w'.heap.size w' w'':=fun w' h=>by
    have:=text_Fold_c P w' (hG.below h) (by omega) hPv
    rw[← hX]at this
    exact this
   have HC2:Hid (∀ w',A6 w.heap.size w w'→Ac A3 96 #[.string X,.string ⟨#[32]⟩] w' fun e w''=>e=.returned (.bool (decide ((32:UInt8)∈X.data.toList)))∧w''=w'):=J fun w' h=>has_sp_c X w' (by omega) (hG.below h)
   have HT:=J TC
   have HF:=J FC
   have HG:=J hG
   rw[← hX,← hQ]
   clear TC FC hG
   by_cases hQn:Q.data.toList=[]
   ·rw[if_neg (fun h=>h.2 hQn),hse]
    have hq:(Q.toList == [])=true:=by rw[AA,hQn];rfl
    clear hsame hse h0 he hPe hPv hQ hX hQe hQn
    go_enter N3,Md
    go_wp2_with (first
     |(go_at_call 93;((with_reducible refine HC.out.mono ?_);rintro e w1 ⟨rfl,hb1⟩))
     |(go_at_call 94;((with_reducible refine (HT.out _).mono ?_);rintro e w2 ⟨rfl,rfl⟩))
     |(go_at_call 95;((with_reducible refine (HF.out _ hb1).mono ?_);rintro e w3 ⟨rfl,hb3⟩)))
    go_ret
    exact⟨F6 rfl,A8 hb1 hb3⟩
   ·have hq:(Q.toList == [])=false:=by rw[AA];simpa using hQn
    by_cases hX32:(32:UInt8)∈X.data.toList
    ·rw[if_neg (fun h=>Sr.arts_no hX32 h.1),hse]
     rw[decide_eq_true hX32]at HC2
     clear hsame hse h0 he hPe hPv hQ hX hQe hQn hX32
     go_enter N3,Md
     go_wp2_with (first
      |(go_at_call 93;((with_reducible refine HC.out.mono ?_);rintro e w1 ⟨rfl,hb1⟩))
      |(go_at_call 94;((with_reducible refine (HT.out _).mono ?_);rintro e w2 ⟨rfl,rfl⟩))
      |(go_at_call 95;((with_reducible refine (HF.out _ hb1).mono ?_);rintro e w3 ⟨rfl,hb3⟩;have hb13:=A8 hb1 hb3))
      |(go_at_call 96;((with_reducible refine (HC2.out _ hb13).mono ?_);rintro e w4 ⟨rfl,rfl⟩)))
     go_ret
     exact⟨F6 rfl,hb13⟩
    ·rw[decide_eq_false hX32]at HC2
     obtain⟨A,hA⟩:∃ A:ByteArray,A.data.toList=Sr.artM lang.data.toList:=⟨⟨(Sr.artM lang.data.toList).toArray⟩,rfl⟩
     have hAs:A.size≤30:=by rw[Ak,hA];exact Sr.artM_len _
     obtain⟨Z,hZ⟩:∃ Z:ByteArray,(⟨#[32]⟩++X)++⟨#[32]⟩=Z:=⟨_,rfl⟩
     have hZd:Z.data.toList=32::(X.data.toList++[32]):=by rw[← hZ];simp
     have HZ:=J hZ
     have hAk:Hid (∀ (M:Nat) (w':A9),Vm.Map 9 w' M 4 Sr.artF→(Instr.lookup 112 (.map (A2 M)) (.string lang) false).run A3 w'=.ok (.string A) w'):=J fun M w' hM =>
      hM.look Np Kc (Sr.szeroS w') (kl:=.string lang.data.toList) (Nq lang.data.toList (by rw[← Ak];omega)) (by rw[Sr.artF_at,← hA])
     have HC3:Hid (∀ w',A6 w.heap.size w w'→Ac A3 96 #[.string A,.string Z] w' fun e w''=>e=.returned (.bool (decide (X.data.toList∈Sr.arts lang.data.toList)))∧w''=w'):=J fun w' h=>has_art_c lang.data.toList X A Z w' (by omega) (HG.out.below h) hA hZd hX32
     by_cases hin:X.data.toList∈Sr.arts lang.data.toList
     ·rw[if_pos ⟨hin,hQn⟩]
      rw[decide_eq_true hin]at HC3
      clear hsame hse h0 he hPe hPv hX hQe hQn hX32 hA hZ hZd hin hQ
      go_enter N3,Md
      go_wp2_with (first
       |(go_at_call 93;((with_reducible refine HC.out.mono ?_);rintro e w1 ⟨rfl,hb1⟩))
       |(go_at_call 94;((with_reducible refine (HT.out _).mono ?_);rintro e w2 ⟨rfl,rfl⟩))
       |(go_at_call 95;((with_reducible refine (HF.out _ hb1).mono ?_);rintro e w3 ⟨rfl,hb3⟩;have hb13:=A8 hb1 hb3))
       |(go_at_call 96;rw[HZ.out];((with_reducible refine (HC3.out _ hb15).mono ?_);rintro e w6 ⟨rfl,rfl⟩))
       |(go_at_call 96;((with_reducible refine (HC2.out _ hb13).mono ?_);rintro e w4 ⟨rfl,rfl⟩))
       |(go_at_call 97;((with_reducible refine (articles_c _).mono ?_);rintro e w5 ⟨M,rfl,hM,hb5⟩;have hb15:=A8 hb13 hb5;have hrun:=hAk.out M w5 hM)))
      go_ret
      exact⟨F6 rfl,hb15⟩
     ·rw[if_neg (fun h=>hin h.1),hse]
      rw[decide_eq_false hin]at HC3
      clear hsame hse h0 he hPe hPv hX hQe hQn hX32 hA hZ hZd hin hQ
      go_enter N3,Md
      go_wp2_with (first
       |(go_at_call 93;((with_reducible refine HC.out.mono ?_);rintro e w1 ⟨rfl,hb1⟩))
       |(go_at_call 94;((with_reducible refine (HT.out _).mono ?_);rintro e w2 ⟨rfl,rfl⟩))
       |(go_at_call 95;((with_reducible refine (HF.out _ hb1).mono ?_);rintro e w3 ⟨rfl,hb3⟩;have hb13:=A8 hb1 hb3))
       |(go_at_call 96;rw[HZ.out];((with_reducible refine (HC3.out _ hb15).mono ?_);rintro e w6 ⟨rfl,rfl⟩))
       |(go_at_call 96;((with_reducible refine (HC2.out _ hb13).mono ?_);rintro e w4 ⟨rfl,rfl⟩))
       |(go_at_call 97;((with_reducible refine (articles_c _).mono ?_);rintro e w5 ⟨M,rfl,hM,hb5⟩;have hb15:=A8 hb13 hb5;have hrun:=hAk.out M w5 hM)))
      go_ret
      exact⟨F6 rfl,hb15⟩
namespace Sr
open Rc
structure Rg (r:Rd):Prop where
 gd:∀ f∈r.fields,Gd f
 mod:Ix.Mod r.fields
 tl:(title r.fields).length≤1000000
 tv:AL (title r.fields)=true
 al:(author r.fields).length≤1000000
 av:AL (author r.fields)=true
 lg:r.lang.size≤1000000
 tag:∀ f∈r.fields,f.tag.data.toList.length=3
 ids:0≤r.id∧r.id≤1000000000
def or2 (a b:Int):Int:=if a≠0 then a else b
def cmpR (by_:Int) (lang:By) (x y:RT):Int:=or2 (firstP by_ lang x.1 y.1) (ER x.1.id y.1.id)
theorem cmpR_lt (by_:Int) (lang:By) (x y:RT):ltV (vals by_ lang x.1) (vals by_ lang y.1)=decide (cmpR by_ lang x y<0):=by
 rw[Bool.eq_iff_iff,decide_eq_true_eq,← firstP_lt]
 unfold cmpR or2 ER
 by_cases h:firstP by_ lang x.1 y.1=0
 ·rw[h,if_neg (by simp)]
  by_cases h1:x.1.id<y.1.id
  ·rw[if_pos h1];simp[h1]
  ·rw[if_neg h1]
   by_cases h2:x.1.id > y.1.id
   ·rw[if_pos h2];simp[h1]
   ·rw[if_neg h2];simp[h1]
 ·rw[if_pos h]
  constructor
  ·rintro (h1 | h1)
   ·exact h1
   ·exact absurd h1.1 h
  ·exact .inl
end Sr
theorem sr_or2_c (a b:Int) (X:Nat) (w:A9) (c0:w.cell? ⟨X,0,A4⟩=A2 (.int .i64 a)) (c1:w.cell? ⟨X,1,A4⟩=A2 (.int .i64 b)) :
  Ac A3 50 #[.slice (A2 ⟨X,0,A4⟩) 2 2] w fun e w'=>e=.returned (.int .i64 (Sr.or2 a b))∧w=w':=by
 go_enter Tryz.func50,Tryz.ntmps50
 go_wp2
 go_loop [8] (fun i=>∃ (k:Nat),k≤2∧i=.int .i64 k∧(1≤k→a=0)∧(2≤k→b=0)) (fun i=>2 - (intOf i).toNat)
 case atStart=>exact⟨0,by omega,by go_num,fun h=>by omega,fun h=>by omega⟩
 case round =>
  obtain⟨k,hk,rfl,ha,hb⟩:=hrel
  rcases (by omega:k=0∨k=1∨k=2) with rfl | rfl | rfl
  ·cases hq:(a != 0) with
   | true =>
    have HR:Hid (Sr.or2 a b=a):=J (if_pos (by simpa using hq))
    clear ha hb
    go_wp2
    go_ret
    exact⟨by rw[HR.out];rfl,rfl⟩
   | false =>
    have ha0:=J (show a=0 by simpa using hq)
    clear ha hb
    go_wp2
    go_round
    case rel=>exact⟨1,by omega,by go_num,fun _=>ha0.out,fun h=>by omega⟩
    case measure=>simp[intOf]
  ·have ha0:=J (ha (by omega))
   clear ha hb
   have HR:Hid (Sr.or2 a b=b):=J (by unfold Sr.or2;rw[if_neg (by rw[ha0.out];simp)])
   cases hq:(b != 0) with
   | true =>
    go_wp2
    go_ret
    exact⟨by rw[HR.out];rfl,rfl⟩
   | false =>
    have hb0:=J (show b=0 by simpa using hq)
    go_wp2
    go_round
    case rel=>exact⟨2,by omega,by go_num,fun _=>ha0.out,fun _=>hb0.out⟩
    case measure=>simp[intOf]
  ·have ha0:=J (ha (by omega))
   have hb0:=J (hb (by omega))
   clear ha hb
   have HR:Hid (Sr.or2 a b=0):=J (by unfold Sr.or2;rw[if_neg (by rw[ha0.out];simp),hb0.out])
   go_wp2
   go_ret
   exact⟨by rw[HR.out];rfl,rfl⟩
theorem sr_title_c (r:BF) (a:Option Addr) (c:Nat) (w:A9) (hG:G w) (h:Rc.FldA w a c r.fields) (hR:Sr.Rg r) :
  Ac A3 41 #[.agg #[.int .i64 r.id,.int .i64 r.ver,.int .i64 r.kind,.string r.lang,.slice a r.fields.length c]] w fun e w'=>e=.returned (.string ⟨(KB r.lang.data.toList (F4 r.fields)).toArray⟩)∧A6 w.heap.size w w':=by
 obtain⟨W,hW⟩:∃ W,w.alloc (.cells #[.int .i64 r.id,.int .i64 r.ver,.int .i64 r.kind,.string r.lang,.slice a r.fields.length c] 51)=W:=⟨_,rfl⟩
 have hB:A6 w.heap.size w W:=by rw[← hW];exact Aa _ _
 have c0:W.cell? ⟨w.heap.size,0,A4⟩=A2 (.int .i64 r.id):=by rw[← hW];simp
 have c1:W.cell? ⟨w.heap.size,1,A4⟩=A2 (.int .i64 r.ver):=by rw[← hW];simp
 have c2:W.cell? ⟨w.heap.size,2,A4⟩=A2 (.int .i64 r.kind):=by rw[← hW];simp
 have c3:W.cell? ⟨w.heap.size,3,A4⟩=A2 (.string r.lang):=by rw[← hW];simp
 have c4:W.cell? ⟨w.heap.size,4,A4⟩=A2 (.slice a r.fields.length c):=by rw[← hW];simp
 obtain⟨T,hT⟩:∃ T:ByteArray,(⟨(F4 r.fields).toArray⟩:ByteArray)=T:=⟨_,rfl⟩
 have hTd:F4 r.fields=T.data.toList:=by rw[← hT]
 have hTs:T.size≤1000000:=by rw[Ak,← hTd];exact hR.tl
 have hTv:AL T.data.toList=true:=by rw[← hTd];exact hR.tv
 have TC:∀ W',A6 W.heap.size W W'→_:=fun W' hb=>record_Title_c r.fields a c r.id r.ver r.kind r.lang W' ((h.below hB).below hb) hR.gd
 rw[hT]at TC
 have SC:∀ W',A6 W.heap.size W W'→_:=fun W' hb=>Skip_c r.lang T W' ((hG.below hB).below hb) hTs hR.lg hTv
 rw[hTd]
 have HT:=J TC
 have HS:=J SC
 clear TC SC hT hTd hTs hTv hG h hR
 go_enter Tryz.func41,Tryz.ntmps41
 go_wp2
 clear hW
 go_region_held3 (fun w'=>A6 W.heap.size W w'∧w'.cell? ⟨w.heap.size,0,A4⟩=A2 (.int .i64 r.id)∧w'.cell? ⟨w.heap.size,1,A4⟩=A2 (.int .i64 r.ver)∧w'.cell? ⟨w.heap.size,2,A4⟩=A2 (.int .i64 r.kind)∧w'.cell? ⟨w.heap.size,3,A4⟩=A2 (.string r.lang)∧w'.cell? ⟨w.heap.size,4,A4⟩=A2 (.slice a r.fields.length c))
  (first | exact⟨(Below.refl _ _).drew,c0,c1,c2,c3,c4⟩ | (go_split_ands;exact⟨A8 ‹_› hbx,by repeat' first | exact A0 hbx ‹_› | constructor⟩))
  (first
   |(go_split_ands;go_at_call 42;((with_reducible refine (HS.out _ ‹_›).mono ?_);rintro e wx ⟨rfl,hbx⟩))
   |(go_split_ands;go_at_call 43;((with_reducible refine (HT.out _ ‹_›).mono ?_);rintro e wx ⟨rfl,hbx⟩)))
 go_split_ands
 have hb9:A6 W.heap.size W wx:=by assumption
 go_wp2
 go_ret
 exact⟨rfl,A8 hB hb9⟩
namespace Sr
structure Cap3 (w:A9) (X Y Z:Nat) (by_:Int) (lang:ByteArray):Prop where
 c0:w.cell? ⟨X,0,A4⟩=A2 (.int .i64 by_)
 c1:w.cell? ⟨Y,0,A4⟩=A2 (.string lang)
 c2:w.cell? ⟨Z,0,A4⟩=A2 (.func (.func 41) #[] #[])
theorem Cap3.below {w w':A9}{X Y Z:Nat}{by_:Int}{lang:ByteArray} (h:Cap3 w X Y Z by_ lang) (hb:A6 w.heap.size w w'):Cap3 w' X Y Z by_ lang:=⟨A0 hb h.c0,A0 hb h.c1,A0 hb h.c2⟩
theorem first1 {by_:Int}{lang:By}{x y:BF} (h:by_=1):firstP by_ lang x y=cmp lang (skip x.lang.data.toList (F4 x.fields)) (skip y.lang.data.toList (F4 y.fields)):=by unfold firstP;rw[if_pos h]
theorem first2 {by_:Int}{lang:By}{x y:BF} (h:by_=2):firstP by_ lang x y=cmp lang (Gh x.fields) (Gh y.fields):=by unfold firstP;rw[if_neg (by omega),if_pos h]
theorem first3 {by_:Int}{lang:By}{x y:BF} (h:by_=3):firstP by_ lang x y=ER (DU y.fields:Int) (DU x.fields:Int):=by unfold firstP;rw[if_neg (by omega),if_neg (by omega),if_pos h]
theorem first0 {by_:Int}{lang:By}{x y:BF} (h1:by_≠1) (h2:by_≠2) (h3:by_≠3):firstP by_ lang x y=0:=by unfold firstP;rw[if_neg h1,if_neg h2,if_neg h3]
end Sr
theorem sr_compare_c (by_:Int) (lang:ByteArray) (X Y Z:Nat) (x y:BF) (xa ya:Option Addr) (xc yc:Nat) (w:A9) (hG:G w) (hx:Rc.FldA w xa xc x.fields) (hy:Rc.FldA w ya yc y.fields) (hRx:Sr.Rg x) (hRy:Sr.Rg y) (hC:Sr.Cap3 w X Y Z by_ lang) :
  Ac A3 45 #[.agg #[.int .i64 x.id,.int .i64 x.ver,.int .i64 x.kind,.string x.lang,.slice xa x.fields.length xc],.agg #[.int .i64 y.id,.int .i64 y.ver,.int .i64 y.kind,.string y.lang,.slice ya y.fields.length yc],.pointer (A2 ⟨X,0,A4⟩),.pointer (A2 ⟨Y,0,A4⟩),.pointer (A2 ⟨Z,0,A4⟩)] w fun e w'=>e=.returned (.int .i64 (Sr.or2 (Sr.firstP by_ lang.data.toList x y) (ER x.id y.id)))∧A6 w.heap.size w w':=by
 obtain⟨W,hW⟩:∃ W,(w.alloc (.cells #[.int .i64 x.id,.int .i64 x.ver,.int .i64 x.kind,.string x.lang,.slice xa x.fields.length xc] 51)).alloc (.cells #[.int .i64 y.id,.int .i64 y.ver,.int .i64 y.kind,.string y.lang,.slice ya y.fields.length yc] 51)=W:=⟨_,rfl⟩
 have hB:A6 w.heap.size w W:=by rw[← hW];exact (Aa _ _).alloc (Aa w _).size _
 have a0:W.cell? ⟨w.heap.size,0,A4⟩=A2 (.int .i64 x.id):=by rw[← hW];simp
 have a1:W.cell? ⟨w.heap.size,1,A4⟩=A2 (.int .i64 x.ver):=by rw[← hW];simp
 have a2:W.cell? ⟨w.heap.size,2,A4⟩=A2 (.int .i64 x.kind):=by rw[← hW];simp
 have a3:W.cell? ⟨w.heap.size,3,A4⟩=A2 (.string x.lang):=by rw[← hW];simp
 have a4:W.cell? ⟨w.heap.size,4,A4⟩=A2 (.slice xa x.fields.length xc):=by rw[← hW];simp
 have b0:W.cell? ⟨w.heap.size+1,0,A4⟩=A2 (.int .i64 y.id):=by rw[← hW];simp
 have b1:W.cell? ⟨w.heap.size+1,1,A4⟩=A2 (.int .i64 y.ver):=by rw[← hW];simp
 have b2:W.cell? ⟨w.heap.size+1,2,A4⟩=A2 (.int .i64 y.kind):=by rw[← hW];simp
 have b3:W.cell? ⟨w.heap.size+1,3,A4⟩=A2 (.string y.lang):=by rw[← hW];simp
 have b4:W.cell? ⟨w.heap.size+1,4,A4⟩=A2 (.slice ya y.fields.length yc):=by rw[← hW];simp
 obtain⟨k0,k1,k2⟩:=hC.below hB
 have CI:∀ p q W',Ac A3 48 #[.int .i64 p,.int .i64 q] W' fun e w'=>e=.returned (.int .i64 (ER p q))∧w'=W':=fun p q W'=>Tryz.cmp_Compare_int p q W'
 have HCI:=J CI
 obtain⟨F,hF⟩:∃ F,Sr.firstP by_ lang.data.toList x y=F:=⟨_,rfl⟩
 rw[hF]
 obtain⟨D,hD⟩:∃ D,ER x.id y.id=D:=⟨_,rfl⟩
 have hCD:=CI x.id y.id
 rw[hD]at hCD ⊢
 have HCD:=J hCD
 clear CI hCD hD
 by_cases h1:by_=1
 ·rw[Sr.first1 h1]at hF
  obtain⟨P,hP⟩:∃ P:ByteArray,(⟨(KB x.lang.data.toList (F4 x.fields)).toArray⟩:ByteArray)=P:=⟨_,rfl⟩
  obtain⟨Q,hQ⟩:∃ Q:ByteArray,(⟨(KB y.lang.data.toList (F4 y.fields)).toArray⟩:ByteArray)=Q:=⟨_,rfl⟩
  have hPd:KB x.lang.data.toList (F4 x.fields)=P.data.toList:=by rw[← hP]
  have hQd:KB y.lang.data.toList (F4 y.fields)=Q.data.toList:=by rw[← hQ]
  have TX:∀ W',A6 W.heap.size W W'→_:=fun W' hb=>sr_title_c x xa xc W' ((hG.below hB).below hb) ((hx.below hB).below hb) hRx
  have TY:∀ W',A6 W.heap.size W W'→_:=fun W' hb=>sr_title_c y ya yc W' ((hG.below hB).below hb) ((hy.below hB).below hb) hRy
  rw[hP]at TX
  rw[hQ]at TY
  have CC:∀ W',A6 W.heap.size W W'→_:=fun W' hb=>collate_Compare_c lang P Q W' ((hG.below hB).below hb) (by rw[Ak,← hPd];exact AK (Sr.skip_len _ _) hRx.tl) (by rw[Ak,← hQd];exact AK (Sr.skip_len _ _) hRy.tl) (by rw[← hPd];exact Sr.skip_valid hRx.tv) (by rw[← hQd];exact Sr.skip_valid hRy.tv)
  rw[← hPd,← hQd,hF]at CC
  have HTX:=J TX
  have HTY:=J TY
  have HCC:=J CC
  subst h1
  clear TX TY CC hP hQ hPd hQd hF hG hx hy hRx hRy hC
  go_enter Tryz.func45,Tryz.ntmps45
  go_wp2
  clear hW
  go_region_held3 (fun w'=>A6 W.heap.size W w'∧w'.cell? ⟨w.heap.size,0,A4⟩=A2 (.int .i64 x.id)∧w'.cell? ⟨w.heap.size,1,A4⟩=A2 (.int .i64 x.ver)∧w'.cell? ⟨w.heap.size,2,A4⟩=A2 (.int .i64 x.kind)∧w'.cell? ⟨w.heap.size,3,A4⟩=A2 (.string x.lang)∧w'.cell? ⟨w.heap.size,4,A4⟩=A2 (.slice xa x.fields.length xc)∧w'.cell? ⟨w.heap.size+1,0,A4⟩=A2 (.int .i64 y.id)∧w'.cell? ⟨w.heap.size+1,1,A4⟩=A2 (.int .i64 y.ver)∧w'.cell? ⟨w.heap.size+1,2,A4⟩=A2 (.int .i64 y.kind)∧w'.cell? ⟨w.heap.size+1,3,A4⟩=A2 (.string y.lang)∧w'.cell? ⟨w.heap.size+1,4,A4⟩=A2 (.slice ya y.fields.length yc)∧w'.cell? ⟨X,0,A4⟩=A2 (.int .i64 1)∧w'.cell? ⟨Y,0,A4⟩=A2 (.string lang)∧w'.cell? ⟨Z,0,A4⟩=A2 (.func (.func 41) #[] #[]))
   (first | exact⟨(Below.refl _ _).drew,a0,a1,a2,a3,a4,b0,b1,b2,b3,b4,k0,k1,k2⟩ | (go_split_ands;exact⟨A8 ‹_› hbx,by repeat' first | exact A0 hbx ‹_› | constructor⟩))
   (first
    |(go_split_ands;go_at_call 46;((with_reducible refine (HCC.out _ ‹_›).mono ?_);rintro e wx ⟨rfl,hbx⟩))
    |(go_split_ands;go_at_call 41;((with_reducible refine (HTX.out _ ‹_›).mono ?_);rintro e wx ⟨rfl,hbx⟩))
    |(go_split_ands;go_at_call 41;((with_reducible refine (HTY.out _ ‹_›).mono ?_);rintro e wx ⟨rfl,hbx⟩)))
  go_split_ands
  have hb9:A6 W.heap.size W wx:=by assumption
  have HB9:=J hb9
  have z0:=A0 hb9 a0
  have z1:=A0 hb9 b0
  go_wp2_with (first
   |(go_at_call 48;((with_reducible refine (HCD.out _).mono ?_);rintro e w8 ⟨rfl,rfl⟩))
   |(go_at_call 50;refine (sr_or2_c F D w8.heap.size _ (by simp) (by simp)).mono ?_;rintro e w7 ⟨rfl,rfl⟩))
  go_ret
  exact⟨rfl,A8 hB (HB9.out.alloc HB9.out.size _)⟩
 ·by_cases h2:by_=2
  ·rw[Sr.first2 h2]at hF
   obtain⟨P,hP⟩:∃ P:ByteArray,(⟨(Gh x.fields).toArray⟩:ByteArray)=P:=⟨_,rfl⟩
   obtain⟨Q,hQ⟩:∃ Q:ByteArray,(⟨(Gh y.fields).toArray⟩:ByteArray)=Q:=⟨_,rfl⟩
   have hPd:Gh x.fields=P.data.toList:=by rw[← hP]
   have hQd:Gh y.fields=Q.data.toList:=by rw[← hQ]
   have TX:∀ W',A6 W.heap.size W W'→_:=fun W' hb=>record_Author_c x.fields xa xc x.id x.ver x.kind x.lang W' ((hx.below hB).below hb)
   have TY:∀ W',A6 W.heap.size W W'→_:=fun W' hb=>record_Author_c y.fields ya yc y.id y.ver y.kind y.lang W' ((hy.below hB).below hb)
   rw[hP]at TX
   rw[hQ]at TY
   have CC:∀ W',A6 W.heap.size W W'→_:=fun W' hb=>collate_Compare_c lang P Q W' ((hG.below hB).below hb) (by rw[Ak,← hPd];exact hRx.al) (by rw[Ak,← hQd];exact hRy.al) (by rw[← hPd];exact hRx.av) (by rw[← hQd];exact hRy.av)
   rw[← hPd,← hQd,hF]at CC
   have HTX:=J TX
   have HTY:=J TY
   have HCC:=J CC
   subst h2
   clear TX TY CC hP hQ hPd hQd hF hG hx hy hRx hRy hC h1
   go_enter Tryz.func45,Tryz.ntmps45
   go_wp2
   clear hW
   go_region_held3 (fun w'=>A6 W.heap.size W w'∧w'.cell? ⟨w.heap.size,0,A4⟩=A2 (.int .i64 x.id)∧w'.cell? ⟨w.heap.size,1,A4⟩=A2 (.int .i64 x.ver)∧w'.cell? ⟨w.heap.size,2,A4⟩=A2 (.int .i64 x.kind)∧w'.cell? ⟨w.heap.size,3,A4⟩=A2 (.string x.lang)∧w'.cell? ⟨w.heap.size,4,A4⟩=A2 (.slice xa x.fields.length xc)∧w'.cell? ⟨w.heap.size+1,0,A4⟩=A2 (.int .i64 y.id)∧w'.cell? ⟨w.heap.size+1,1,A4⟩=A2 (.int .i64 y.ver)∧w'.cell? ⟨w.heap.size+1,2,A4⟩=A2 (.int .i64 y.kind)∧w'.cell? ⟨w.heap.size+1,3,A4⟩=A2 (.string y.lang)∧w'.cell? ⟨w.heap.size+1,4,A4⟩=A2 (.slice ya y.fields.length yc)∧w'.cell? ⟨X,0,A4⟩=A2 (.int .i64 2)∧w'.cell? ⟨Y,0,A4⟩=A2 (.string lang)∧w'.cell? ⟨Z,0,A4⟩=A2 (.func (.func 41) #[] #[]))
    (first | exact⟨(Below.refl _ _).drew,a0,a1,a2,a3,a4,b0,b1,b2,b3,b4,k0,k1,k2⟩ | (go_split_ands;exact⟨A8 ‹_› hbx,by repeat' first | exact A0 hbx ‹_› | constructor⟩))
    (first
     |(go_split_ands;go_at_call 46;((with_reducible refine (HCC.out _ ‹_›).mono ?_);rintro e wx ⟨rfl,hbx⟩))
     |(go_split_ands;go_at_call 47;((with_reducible refine (HTX.out _ ‹_›).mono ?_);rintro e wx ⟨rfl,hbx⟩))
     |(go_split_ands;go_at_call 47;((with_reducible refine (HTY.out _ ‹_›).mono ?_);rintro e wx ⟨rfl,hbx⟩)))
   go_split_ands
   have hb9:A6 W.heap.size W wx:=by assumption
   have HB9:=J hb9
   have z0:=A0 hb9 a0
   have z1:=A0 hb9 b0
   go_wp2_with (first
    |(go_at_call 48;((with_reducible refine (HCD.out _).mono ?_);rintro e w8 ⟨rfl,rfl⟩))
    |(go_at_call 50;refine (sr_or2_c F D w8.heap.size _ (by simp) (by simp)).mono ?_;rintro e w7 ⟨rfl,rfl⟩))
   go_ret
   exact⟨rfl,A8 hB (HB9.out.alloc HB9.out.size _)⟩
  ·by_cases h3:by_=3
   ·rw[Sr.first3 h3]at hF
    obtain⟨P,hP⟩:∃ P:Nat,DU x.fields=P:=⟨_,rfl⟩
    obtain⟨Q,hQ⟩:∃ Q:Nat,DU y.fields=Q:=⟨_,rfl⟩
    have TX:∀ W',A6 W.heap.size W W'→_:=fun W' hb=>record_Year_c x.fields xa xc x.id x.ver x.kind x.lang W' ((hx.below hB).below hb) hRx.gd
    have TY:∀ W',A6 W.heap.size W W'→_:=fun W' hb=>record_Year_c y.fields ya yc y.id y.ver y.kind y.lang W' ((hy.below hB).below hb) hRy.gd
    rw[hP]at TX hF
    rw[hQ]at TY hF
    have CC:=HCI.out (Q:Int) (P:Int)
    rw[hF]at CC
    have HTX:=J TX
    have HTY:=J TY
    have HCC:=J CC
    subst h3
    clear TX TY CC hP hQ hF hG hx hy hRx hRy hC h1 h2
    go_enter Tryz.func45,Tryz.ntmps45
    go_wp2
    clear hW
    go_region_held3 (fun w'=>A6 W.heap.size W w'∧w'.cell? ⟨w.heap.size,0,A4⟩=A2 (.int .i64 x.id)∧w'.cell? ⟨w.heap.size,1,A4⟩=A2 (.int .i64 x.ver)∧w'.cell? ⟨w.heap.size,2,A4⟩=A2 (.int .i64 x.kind)∧w'.cell? ⟨w.heap.size,3,A4⟩=A2 (.string x.lang)∧w'.cell? ⟨w.heap.size,4,A4⟩=A2 (.slice xa x.fields.length xc)∧w'.cell? ⟨w.heap.size+1,0,A4⟩=A2 (.int .i64 y.id)∧w'.cell? ⟨w.heap.size+1,1,A4⟩=A2 (.int .i64 y.ver)∧w'.cell? ⟨w.heap.size+1,2,A4⟩=A2 (.int .i64 y.kind)∧w'.cell? ⟨w.heap.size+1,3,A4⟩=A2 (.string y.lang)∧w'.cell? ⟨w.heap.size+1,4,A4⟩=A2 (.slice ya y.fields.length yc)∧w'.cell? ⟨X,0,A4⟩=A2 (.int .i64 3)∧w'.cell? ⟨Y,0,A4⟩=A2 (.string lang)∧w'.cell? ⟨Z,0,A4⟩=A2 (.func (.func 41) #[] #[]))
     (first | exact⟨(Below.refl _ _).drew,a0,a1,a2,a3,a4,b0,b1,b2,b3,b4,k0,k1,k2⟩ | (go_split_ands;exact⟨A8 ‹_› hbx,by repeat' first | exact A0 hbx ‹_› | constructor⟩) | (go_split_ands;exact⟨by assumption,by assumption,by assumption,by assumption,by assumption,by assumption,by assumption,by assumption,by assumption,by assumption,by assumption,by assumption,by assumption,by assumption⟩))
     (first
      |(go_split_ands;go_at_call 48;((with_reducible refine (HCC.out _).mono ?_);rintro e wx ⟨rfl,rfl⟩))
      |(go_split_ands;go_at_call 49;((with_reducible refine (HTX.out _ ‹_›).mono ?_);rintro e wx ⟨rfl,hbx⟩))
      |(go_split_ands;go_at_call 49;((with_reducible refine (HTY.out _ ‹_›).mono ?_);rintro e wx ⟨rfl,hbx⟩)))
    go_split_ands
    have hb9:A6 W.heap.size W wx:=by assumption
    have HB9:=J hb9
    have z0:=A0 hb9 a0
    have z1:=A0 hb9 b0
    go_wp2_with (first
     |(go_at_call 48;((with_reducible refine (HCD.out _).mono ?_);rintro e w8 ⟨rfl,rfl⟩))
     |(go_at_call 50;refine (sr_or2_c F D w8.heap.size _ (by simp) (by simp)).mono ?_;rintro e w7 ⟨rfl,rfl⟩))
    go_ret
    exact⟨rfl,A8 hB (HB9.out.alloc HB9.out.size _)⟩
   ·rw[Sr.first0 h1 h2 h3]at hF
    subst hF
    have t1:(by_ == 1)=false:=beq_eq_false_iff_ne.2 h1
    have t2:(by_ == 2)=false:=beq_eq_false_iff_ne.2 h2
    have t3:(by_ == 3)=false:=beq_eq_false_iff_ne.2 h3
    clear hG hx hy hRx hRy hC h1 h2 h3
    go_enter Tryz.func45,Tryz.ntmps45
    go_wp2_with (first
     |(go_at_call 48;((with_reducible refine (HCD.out _).mono ?_);rintro e w8 ⟨rfl,rfl⟩))
     |(go_at_call 50;refine (sr_or2_c 0 D w8.heap.size _ (by simp) (by simp)).mono ?_;rintro e w7 ⟨rfl,rfl⟩))
    go_ret
    exact⟨rfl,hB.alloc hB.size _⟩
theorem sr_compare_enters:∀ args w,(callFunc 45 args).run A3 w=.ok (.enter 45 args) w:=enters_of Tryz.func45 (by kernel_rfl) rfl
namespace Sr
open Rc hiding bys
theorem clean_valid {l:By} (hv:AL l=true):AL (KZ l)=true:=by
 unfold KZ
 refine Tx.foldT_ind Tx.cleanStep (fun st _=>AL st.1=true) (fun st m hne hm ho=>?_) l.length ([],false) l (Nat.le_refl _) hv rfl
 unfold Tx.cleanStep
 split
 ·exact ho
 ·refine Rc.valid_app ?_ (Tx.valid_piece hne hm).1
  split
  ·exact Rc.valid_app ho (by decide)
  ·exact ho
def vsF (l:List (UInt8 × ByteArray)):Nat:=(l.map fun x=>x.2.size).sum
theorem allV_words {codes:By}:∀ {l:List (UInt8 × ByteArray)},(∀ x∈l,AL x.2.data.toList=true)→((allV l codes).flatMap fun s=>Tx.words s.data.toList).length≤2*vsF l
 | [],_=>by simp[allV]
 | x::l,h=>by
  have ih:=allV_words (codes:=codes) (l:=l) (fun y hy=>h y (Bw _ hy))
  have h1:=(Tx.words_good (h x (AY ..))).2
  have h2:x.2.data.toList.length=x.2.size:=(Ak x.2).symm
  unfold allV at ih ⊢
  unfold vsF at ih ⊢
  rw[Cf,N6]
  by_cases hc:hasCode codes x.1=true
  ·rw[List.filter_cons_of_pos (by simpa using hc),Cf,List.flatMap_cons,Af]
   omega
  ·rw[List.filter_cons_of_neg (by simpa using hc)]
   omega
theorem vsF_le:∀ (l:List (UInt8 × ByteArray)),(∀ x∈l,x.2.size≤300)→vsF l≤300*l.length
 | [],_=>by simp[vsF]
 | x::r,h=>by
  have h1:=h x (AY ..)
  have h2:=vsF_le r fun y hy=>h y (Bw _ hy)
  unfold vsF at h2 ⊢
  rw[Cf,N6,AO]
  omega
theorem okf_plain {f:Fl} (h:Okf f) (c:By):(plain f.subs c).length≤100000:=by
 have h1:(plain f.subs c).length≤(Nu (allV f.subs c)).length*(200+1):=by
  refine join_le _ [32] 200 fun x hx=>?_
  unfold Nu at hx
  obtain⟨y,hy,rfl⟩:=List.mem_map.1 hx
  obtain⟨z,hz,rfl⟩:=allV_mem hy
  have:=(h.vals z hz).2.2.2
  rwa [Ak]at this
 have h2:(Nu (allV f.subs c)).length≤16:=by
  unfold Nu
  rw[List.length_map]
  exact AK (allV_len _ _) h.subs
 omega
theorem first_mem {fs:List Fl}{t:By}{f:Fl} (h:first fs t=A2 f):f∈fs:=List.mem_of_find?_eq_some h
theorem authorT_ok {fs:List Fl} (h:∀ f∈fs,Okf f) {t:By}{v:ByteArray} (hv:authorT fs t=A2 v):v.data.toList.length≤1000000∧AL v.data.toList=true:=by
 unfold authorT at hv
 cases hf:first fs t with
 | none=>rw[hf]at hv;cases hv
 | some f =>
  rw[hf]at hv
  obtain⟨x,hx,rfl⟩:=get_mem (show get f.subs 97=A2 v from hv)
  have:=(h f (first_mem hf)).vals x hx
  refine⟨?_,this.2.2.1⟩
  have h2:=this.2.2.2
  rw[Ak]at h2
  omega
theorem author_ok {fs:List Fl} (h:∀ f∈fs,Okf f):(author fs).length≤1000000∧AL (author fs)=true:=by
 unfold author
 cases h1:authorT fs [49,48,48] with
 | some v=>exact authorT_ok h h1
 | none =>
  cases h2:authorT fs [49,49,48] with
  | some v=>exact authorT_ok h h2
  | none =>
   cases h3:authorT fs [55,48,48] with
   | some v=>exact authorT_ok h h3
   | none=>exact⟨Nat.zero_le _,rfl⟩
theorem title_ok {fs:List Fl} (h:∀ f∈fs,Okf f):(title fs).length≤1000000∧AL (title fs)=true:=by
 unfold title
 cases hf:first fs [50,52,53] with
 | none=>exact⟨Nat.zero_le _,rfl⟩
 | some f =>
  have hg:=h f (first_mem hf)
  have h1:=Tx.clean_len (plain f.subs [97,98])
  have h2:=okf_plain hg [97,98]
  exact⟨by show (KZ _).length≤_;omega,clean_valid (hg.gd.plain_valid _)⟩
theorem rg_of {r:Rd} (hs:smallR r.fields=true) (he:recE r=0):Rg r:=by
 obtain⟨hid,_,_,hlang,_,_,hok⟩:=recE_zero he
 unfold smallR at hs
 rw[decide_eq_true_eq]at hs
 have hg:=fun f hf=>(hok f hf).gd
 have ht:=title_ok hok
 have ha:=author_ok hok
 refine⟨hg,⟨hs.1,fun f hf=>(hg f hf).1,fun f hf x hx=>((hg f hf).2 x hx).1,fun f hf codes=>?_⟩,ht.1,ht.2,ha.1,ha.2,?_,fun f hf=>(hok f hf).tag,by omega⟩
 ·have h3:=allV_words (codes:=codes) (l:=f.subs) (fun x hx=>((hg f hf).2 x hx).2)
  have h4:=vsF_le f.subs fun x hx=>AK ((hok f hf).vals x hx).2.2.2 (by decide)
  have h5:=(hok f hf).subs
  unfold Ix.wordsF
  omega
 ·rw[Ak,hlang]
  decide
end Sr
end Go.Proofs.YtlakomilichhnaaGreatDoor
